/-
  No cell of these rows narrows 'for every input' (looked for: loops, veiled, ifaces, maps, wideKeys, modest, calm, conditions, laid).
  DERIVED. THE GIVEN ROWS OF THIS SEAT. 13 by the template 'for every input the law returns true; each argument reads behind the call as it read before'; 0 by the template 'total and deterministic' (their statements: YthlbjgabhpdbfaaGreatTotals.lean).
  GIVEN WITH THE SEED: the statements are not yours to turn. If you find one false, say at which input.
  Laid BY PROGRAM, IN A SANDBOX (cutbox-rows.mjs): the forced cells as the released guide's own fill.sh prints them over the translation 7eb160e7a4938da5… (all of the seat's roots in one cut). By AI agents, Wed Nov 11 2026. No macro, syntax, notation, axiom, sorry.
-/
import Derived.Test.YthlbjgabhpdbfaaGreatChecked
import GoSem.Claim
import GoSem.ClaimJoined
import GoSem.ClaimMapViews
import Derived.JoinedTies
import Derived.KernelRfl
namespace Go.Proofs.YthlbjgabhpdbfaaGreat
/- THE CELL 'sum', in the pinned program and in every row, IS THE sha256 OF THE DUMP (.gsa) THAT YthlbjgabhpdbfaaGreatProg.lean LOADS. Nothing in Lean hashes anything: it is a label: what it is worth is what the hold of that sum in a sandbox is worth. -/
noncomputable def Tryz.pinned : Pinned := { name := "ythlbjgabhpdbfaagreat", sum := "7eb160e7a4938da5106ccbf4f24ba0462cf00b81b33c33b477807dba09b056cb", checked := Tryz.checked }
namespace Rows
def none {H : Type} : Left H := { results := [], args := [] }

/-- 'conchlaw15.ActsRight': WHATEVER THE INPUT: true; the input reads as it did. -/
def actsRightSpec : ChangeSpec := { name := "actsRight", fn := fun _ => fun
  | [d] => { results := [.lit (.bool true)], args := [d] }
  | _ => none }
def actsRightRow : OpenClaim := { program := "ythlbjgabhpdbfaagreat", sum := "7eb160e7a4938da5106ccbf4f24ba0462cf00b81b33c33b477807dba09b056cb", func := "conch/conchlaw15.ActsRight", spec := "actsRight", inPlace := ["internal/abi.NoEscape"], unfollowed := true, recurses := true, plainKeys := false, apart := false }
def ActsRightSaid : Prop := actsRightRow.holds Tryz.pinned (OpenSpec.ofChange actsRightSpec)

/-- ITS FALSE NEIGHBOUR: 'it returns false'. Refute it at one input. -/
def actsRightWrong : ChangeSpec := { name := "actsRight", fn := fun _ => fun
  | [d] => { results := [.lit (.bool false)], args := [d] }
  | _ => none }
def ActsRightWrongFalsely : Prop := actsRightRow.holds Tryz.pinned (OpenSpec.ofChange actsRightWrong)

/-- 'conchlaw17.PackPacks': WHATEVER THE INPUT: true; the input reads as it did. -/
def packPacksSpec : ChangeSpec := { name := "packPacks", fn := fun _ => fun
  | [d] => { results := [.lit (.bool true)], args := [d] }
  | _ => none }
def packPacksRow : OpenClaim := { program := "ythlbjgabhpdbfaagreat", sum := "7eb160e7a4938da5106ccbf4f24ba0462cf00b81b33c33b477807dba09b056cb", func := "conch/conchlaw17.PackPacks", spec := "packPacks", inPlace := ["internal/abi.NoEscape"], unfollowed := true, recurses := true, plainKeys := false, apart := false }
def PackPacksSaid : Prop := packPacksRow.holds Tryz.pinned (OpenSpec.ofChange packPacksSpec)

/-- ITS FALSE NEIGHBOUR: 'it returns false'. Refute it at one input. -/
def packPacksWrong : ChangeSpec := { name := "packPacks", fn := fun _ => fun
  | [d] => { results := [.lit (.bool false)], args := [d] }
  | _ => none }
def PackPacksWrongFalsely : Prop := packPacksRow.holds Tryz.pinned (OpenSpec.ofChange packPacksWrong)

/-- 'conchlaw17.PackSame': WHATEVER THE INPUT: true; the input reads as it did. -/
def packSameSpec : ChangeSpec := { name := "packSame", fn := fun _ => fun
  | [d] => { results := [.lit (.bool true)], args := [d] }
  | _ => none }
def packSameRow : OpenClaim := { program := "ythlbjgabhpdbfaagreat", sum := "7eb160e7a4938da5106ccbf4f24ba0462cf00b81b33c33b477807dba09b056cb", func := "conch/conchlaw17.PackSame", spec := "packSame", inPlace := ["internal/abi.NoEscape"], unfollowed := true, recurses := true, plainKeys := false, apart := false }
def PackSameSaid : Prop := packSameRow.holds Tryz.pinned (OpenSpec.ofChange packSameSpec)

/-- ITS FALSE NEIGHBOUR: 'it returns false'. Refute it at one input. -/
def packSameWrong : ChangeSpec := { name := "packSame", fn := fun _ => fun
  | [d] => { results := [.lit (.bool false)], args := [d] }
  | _ => none }
def PackSameWrongFalsely : Prop := packSameRow.holds Tryz.pinned (OpenSpec.ofChange packSameWrong)

/-- 'conchlaw20.DriveProbes': WHATEVER THE INPUT: true; the input reads as it did. -/
def driveProbesSpec : ChangeSpec := { name := "driveProbes", fn := fun _ => fun
  | [d1, d2] => { results := [.lit (.bool true)], args := [d1, d2] }
  | _ => none }
def driveProbesRow : OpenClaim := { program := "ythlbjgabhpdbfaagreat", sum := "7eb160e7a4938da5106ccbf4f24ba0462cf00b81b33c33b477807dba09b056cb", func := "conch/conchlaw20.DriveProbes", spec := "driveProbes", inPlace := ["internal/abi.NoEscape"], unfollowed := true, recurses := true, plainKeys := false, apart := false }
def DriveProbesSaid : Prop := driveProbesRow.holds Tryz.pinned (OpenSpec.ofChange driveProbesSpec)

/-- ITS FALSE NEIGHBOUR: 'it returns false'. Refute it at one input. -/
def driveProbesWrong : ChangeSpec := { name := "driveProbes", fn := fun _ => fun
  | [d1, d2] => { results := [.lit (.bool false)], args := [d1, d2] }
  | _ => none }
def DriveProbesWrongFalsely : Prop := driveProbesRow.holds Tryz.pinned (OpenSpec.ofChange driveProbesWrong)

/-- 'conchlaw18.TabsBytes': WHATEVER THE INPUT: true; the input reads as it did. -/
def tabsBytesSpec : ChangeSpec := { name := "tabsBytes", fn := fun _ => fun
  | [d] => { results := [.lit (.bool true)], args := [d] }
  | _ => none }
def tabsBytesRow : OpenClaim := { program := "ythlbjgabhpdbfaagreat", sum := "7eb160e7a4938da5106ccbf4f24ba0462cf00b81b33c33b477807dba09b056cb", func := "conch/conchlaw18.TabsBytes", spec := "tabsBytes", inPlace := ["internal/abi.NoEscape"], unfollowed := true, recurses := true, plainKeys := false, apart := false }
def TabsBytesSaid : Prop := tabsBytesRow.holds Tryz.pinned (OpenSpec.ofChange tabsBytesSpec)

/-- ITS FALSE NEIGHBOUR: 'it returns false'. Refute it at one input. -/
def tabsBytesWrong : ChangeSpec := { name := "tabsBytes", fn := fun _ => fun
  | [d] => { results := [.lit (.bool false)], args := [d] }
  | _ => none }
def TabsBytesWrongFalsely : Prop := tabsBytesRow.holds Tryz.pinned (OpenSpec.ofChange tabsBytesWrong)

/-- 'conchlaw18.TabsReads': WHATEVER THE INPUT: true; the input reads as it did. -/
def tabsReadsSpec : ChangeSpec := { name := "tabsReads", fn := fun _ => fun
  | [d] => { results := [.lit (.bool true)], args := [d] }
  | _ => none }
def tabsReadsRow : OpenClaim := { program := "ythlbjgabhpdbfaagreat", sum := "7eb160e7a4938da5106ccbf4f24ba0462cf00b81b33c33b477807dba09b056cb", func := "conch/conchlaw18.TabsReads", spec := "tabsReads", inPlace := ["internal/abi.NoEscape"], unfollowed := true, recurses := true, plainKeys := false, apart := false }
def TabsReadsSaid : Prop := tabsReadsRow.holds Tryz.pinned (OpenSpec.ofChange tabsReadsSpec)

/-- ITS FALSE NEIGHBOUR: 'it returns false'. Refute it at one input. -/
def tabsReadsWrong : ChangeSpec := { name := "tabsReads", fn := fun _ => fun
  | [d] => { results := [.lit (.bool false)], args := [d] }
  | _ => none }
def TabsReadsWrongFalsely : Prop := tabsReadsRow.holds Tryz.pinned (OpenSpec.ofChange tabsReadsWrong)

/-- 'conchlaw18.TabsCut': WHATEVER THE INPUT: true; the input reads as it did. -/
def tabsCutSpec : ChangeSpec := { name := "tabsCut", fn := fun _ => fun
  | [d1, d2, d3] => { results := [.lit (.bool true)], args := [d1, d2, d3] }
  | _ => none }
def tabsCutRow : OpenClaim := { program := "ythlbjgabhpdbfaagreat", sum := "7eb160e7a4938da5106ccbf4f24ba0462cf00b81b33c33b477807dba09b056cb", func := "conch/conchlaw18.TabsCut", spec := "tabsCut", inPlace := ["internal/abi.NoEscape"], unfollowed := true, recurses := true, plainKeys := false, apart := false }
def TabsCutSaid : Prop := tabsCutRow.holds Tryz.pinned (OpenSpec.ofChange tabsCutSpec)

/-- ITS FALSE NEIGHBOUR: 'it returns false'. Refute it at one input. -/
def tabsCutWrong : ChangeSpec := { name := "tabsCut", fn := fun _ => fun
  | [d1, d2, d3] => { results := [.lit (.bool false)], args := [d1, d2, d3] }
  | _ => none }
def TabsCutWrongFalsely : Prop := tabsCutRow.holds Tryz.pinned (OpenSpec.ofChange tabsCutWrong)

/-- 'conchlaw20.DriveTwins': WHATEVER THE INPUT: true; the input reads as it did. -/
def driveTwinsSpec : ChangeSpec := { name := "driveTwins", fn := fun _ => fun
  | [d1, d2, d3] => { results := [.lit (.bool true)], args := [d1, d2, d3] }
  | _ => none }
def driveTwinsRow : OpenClaim := { program := "ythlbjgabhpdbfaagreat", sum := "7eb160e7a4938da5106ccbf4f24ba0462cf00b81b33c33b477807dba09b056cb", func := "conch/conchlaw20.DriveTwins", spec := "driveTwins", inPlace := ["internal/abi.NoEscape"], unfollowed := true, recurses := true, plainKeys := false, apart := false }
def DriveTwinsSaid : Prop := driveTwinsRow.holds Tryz.pinned (OpenSpec.ofChange driveTwinsSpec)

/-- ITS FALSE NEIGHBOUR: 'it returns false'. Refute it at one input. -/
def driveTwinsWrong : ChangeSpec := { name := "driveTwins", fn := fun _ => fun
  | [d1, d2, d3] => { results := [.lit (.bool false)], args := [d1, d2, d3] }
  | _ => none }
def DriveTwinsWrongFalsely : Prop := driveTwinsRow.holds Tryz.pinned (OpenSpec.ofChange driveTwinsWrong)

/-- 'conchlaw20.DriveNone': WHATEVER THE INPUT: true; the input reads as it did. -/
def driveNoneSpec : ChangeSpec := { name := "driveNone", fn := fun _ => fun
  | [d1, d2] => { results := [.lit (.bool true)], args := [d1, d2] }
  | _ => none }
def driveNoneRow : OpenClaim := { program := "ythlbjgabhpdbfaagreat", sum := "7eb160e7a4938da5106ccbf4f24ba0462cf00b81b33c33b477807dba09b056cb", func := "conch/conchlaw20.DriveNone", spec := "driveNone", inPlace := ["internal/abi.NoEscape"], unfollowed := true, recurses := true, plainKeys := false, apart := false }
def DriveNoneSaid : Prop := driveNoneRow.holds Tryz.pinned (OpenSpec.ofChange driveNoneSpec)

/-- ITS FALSE NEIGHBOUR: 'it returns false'. Refute it at one input. -/
def driveNoneWrong : ChangeSpec := { name := "driveNone", fn := fun _ => fun
  | [d1, d2] => { results := [.lit (.bool false)], args := [d1, d2] }
  | _ => none }
def DriveNoneWrongFalsely : Prop := driveNoneRow.holds Tryz.pinned (OpenSpec.ofChange driveNoneWrong)

/-- 'conchlaw21.RunsWords': WHATEVER THE INPUT: true; the input reads as it did. -/
def runsWordsSpec : ChangeSpec := { name := "runsWords", fn := fun _ => fun
  | [d1, d2] => { results := [.lit (.bool true)], args := [d1, d2] }
  | _ => none }
def runsWordsRow : OpenClaim := { program := "ythlbjgabhpdbfaagreat", sum := "7eb160e7a4938da5106ccbf4f24ba0462cf00b81b33c33b477807dba09b056cb", func := "conch/conchlaw21.RunsWords", spec := "runsWords", inPlace := ["internal/abi.NoEscape"], unfollowed := true, recurses := true, plainKeys := false, apart := false }
def RunsWordsSaid : Prop := runsWordsRow.holds Tryz.pinned (OpenSpec.ofChange runsWordsSpec)

/-- ITS FALSE NEIGHBOUR: 'it returns false'. Refute it at one input. -/
def runsWordsWrong : ChangeSpec := { name := "runsWords", fn := fun _ => fun
  | [d1, d2] => { results := [.lit (.bool false)], args := [d1, d2] }
  | _ => none }
def RunsWordsWrongFalsely : Prop := runsWordsRow.holds Tryz.pinned (OpenSpec.ofChange runsWordsWrong)

/-- 'conchlaw21.RunsFirst': WHATEVER THE INPUT: true; the input reads as it did. -/
def runsFirstSpec : ChangeSpec := { name := "runsFirst", fn := fun _ => fun
  | [d1, d2] => { results := [.lit (.bool true)], args := [d1, d2] }
  | _ => none }
def runsFirstRow : OpenClaim := { program := "ythlbjgabhpdbfaagreat", sum := "7eb160e7a4938da5106ccbf4f24ba0462cf00b81b33c33b477807dba09b056cb", func := "conch/conchlaw21.RunsFirst", spec := "runsFirst", inPlace := ["internal/abi.NoEscape"], unfollowed := true, recurses := true, plainKeys := false, apart := false }
def RunsFirstSaid : Prop := runsFirstRow.holds Tryz.pinned (OpenSpec.ofChange runsFirstSpec)

/-- ITS FALSE NEIGHBOUR: 'it returns false'. Refute it at one input. -/
def runsFirstWrong : ChangeSpec := { name := "runsFirst", fn := fun _ => fun
  | [d1, d2] => { results := [.lit (.bool false)], args := [d1, d2] }
  | _ => none }
def RunsFirstWrongFalsely : Prop := runsFirstRow.holds Tryz.pinned (OpenSpec.ofChange runsFirstWrong)

/-- 'conchlaw21.RunsNext': WHATEVER THE INPUT: true; the input reads as it did. -/
def runsNextSpec : ChangeSpec := { name := "runsNext", fn := fun _ => fun
  | [d1, d2, d3] => { results := [.lit (.bool true)], args := [d1, d2, d3] }
  | _ => none }
def runsNextRow : OpenClaim := { program := "ythlbjgabhpdbfaagreat", sum := "7eb160e7a4938da5106ccbf4f24ba0462cf00b81b33c33b477807dba09b056cb", func := "conch/conchlaw21.RunsNext", spec := "runsNext", inPlace := ["internal/abi.NoEscape"], unfollowed := true, recurses := true, plainKeys := false, apart := false }
def RunsNextSaid : Prop := runsNextRow.holds Tryz.pinned (OpenSpec.ofChange runsNextSpec)

/-- ITS FALSE NEIGHBOUR: 'it returns false'. Refute it at one input. -/
def runsNextWrong : ChangeSpec := { name := "runsNext", fn := fun _ => fun
  | [d1, d2, d3] => { results := [.lit (.bool false)], args := [d1, d2, d3] }
  | _ => none }
def RunsNextWrongFalsely : Prop := runsNextRow.holds Tryz.pinned (OpenSpec.ofChange runsNextWrong)

/-- 'conchlaw20.DriveTree': WHATEVER THE INPUT: true; the input reads as it did. -/
def driveTreeSpec : ChangeSpec := { name := "driveTree", fn := fun _ => fun
  | [d1, d2] => { results := [.lit (.bool true)], args := [d1, d2] }
  | _ => none }
def driveTreeRow : OpenClaim := { program := "ythlbjgabhpdbfaagreat", sum := "7eb160e7a4938da5106ccbf4f24ba0462cf00b81b33c33b477807dba09b056cb", func := "conch/conchlaw20.DriveTree", spec := "driveTree", inPlace := ["internal/abi.NoEscape"], unfollowed := true, recurses := true, plainKeys := false, apart := false }
def DriveTreeSaid : Prop := driveTreeRow.holds Tryz.pinned (OpenSpec.ofChange driveTreeSpec)

/-- ITS FALSE NEIGHBOUR: 'it returns false'. Refute it at one input. -/
def driveTreeWrong : ChangeSpec := { name := "driveTree", fn := fun _ => fun
  | [d1, d2] => { results := [.lit (.bool false)], args := [d1, d2] }
  | _ => none }
def DriveTreeWrongFalsely : Prop := driveTreeRow.holds Tryz.pinned (OpenSpec.ofChange driveTreeWrong)

/- THE SECOND FORM. 'bulk': how many values and letters a reading holds, each counted each time it is reached (what is shared counts as often as it is met; a slice's spare places count too). A statement '..UptoSaid' is the law's where the arguments, and the package variables that the reading takes, are together of bulk at most 1048576: NARROWER than '..Said'. Prove '..Said' where nothing that the law and all that it calls make is longer than what came in: it says more and counts as full. Else prove '..UptoSaid'. A law counts once. -/
mutual
def uptoBulk {H : Type} : DataW H → Nat
  | .lit (.string bytes) => bytes.length + 1
  | .lit _ => 1
  | .nil => 1
  | .ptr d => uptoBulk d + 1
  | .slice elems spare => uptoBulkAll elems + uptoBulkAll spare + 1
  | .agg parts => uptoBulkAll parts + 1
  | .iface _ d => uptoBulk d + 1
  | .map entries => uptoBulkEntries entries + 1
  | .held _ => 1
def uptoBulkAll {H : Type} : List (DataW H) → Nat
  | [] => 0
  | d :: r => uptoBulk d + uptoBulkAll r
def uptoBulkEntries {H : Type} : List (Lit × DataW H) → Nat
  | [] => 0
  | x :: r => uptoBulkEntry x + uptoBulkEntries r
def uptoBulkEntry {H : Type} : Lit × DataW H → Nat
  | (.string bytes, d) => bytes.length + uptoBulk d + 1
  | (_, d) => uptoBulk d + 1
 end
def uptoSmall : (H : Type) → List (DataW H) → Bool := fun _ ds => decide (uptoBulkAll ds ≤ 1048576)
def OpenSpec.upto (s : _root_.Go.ChangeSpec) : _root_.Go.OpenSpec := { _root_.Go.OpenSpec.ofChange s with cond := some uptoSmall }

/-- 'conchlaw15.ActsRight', WHERE WHAT IT READS IS OF BULK AT MOST 1048576: true; the input reads as it did. -/
def actsRightUptoRow : OpenClaim := { program := "ythlbjgabhpdbfaagreat", sum := "7eb160e7a4938da5106ccbf4f24ba0462cf00b81b33c33b477807dba09b056cb", func := "conch/conchlaw15.ActsRight", spec := "actsRight", inPlace := ["internal/abi.NoEscape"], unfollowed := true, recurses := true, plainKeys := false, apart := false, narrowed := true }
def ActsRightUptoSaid : Prop := actsRightUptoRow.holds Tryz.pinned (OpenSpec.upto actsRightSpec)

/-- 'conchlaw17.PackPacks', WHERE WHAT IT READS IS OF BULK AT MOST 1048576: true; the input reads as it did. -/
def packPacksUptoRow : OpenClaim := { program := "ythlbjgabhpdbfaagreat", sum := "7eb160e7a4938da5106ccbf4f24ba0462cf00b81b33c33b477807dba09b056cb", func := "conch/conchlaw17.PackPacks", spec := "packPacks", inPlace := ["internal/abi.NoEscape"], unfollowed := true, recurses := true, plainKeys := false, apart := false, narrowed := true }
def PackPacksUptoSaid : Prop := packPacksUptoRow.holds Tryz.pinned (OpenSpec.upto packPacksSpec)

/-- 'conchlaw17.PackSame', WHERE WHAT IT READS IS OF BULK AT MOST 1048576: true; the input reads as it did. -/
def packSameUptoRow : OpenClaim := { program := "ythlbjgabhpdbfaagreat", sum := "7eb160e7a4938da5106ccbf4f24ba0462cf00b81b33c33b477807dba09b056cb", func := "conch/conchlaw17.PackSame", spec := "packSame", inPlace := ["internal/abi.NoEscape"], unfollowed := true, recurses := true, plainKeys := false, apart := false, narrowed := true }
def PackSameUptoSaid : Prop := packSameUptoRow.holds Tryz.pinned (OpenSpec.upto packSameSpec)

/-- 'conchlaw20.DriveProbes', WHERE WHAT IT READS IS OF BULK AT MOST 1048576: true; the input reads as it did. -/
def driveProbesUptoRow : OpenClaim := { program := "ythlbjgabhpdbfaagreat", sum := "7eb160e7a4938da5106ccbf4f24ba0462cf00b81b33c33b477807dba09b056cb", func := "conch/conchlaw20.DriveProbes", spec := "driveProbes", inPlace := ["internal/abi.NoEscape"], unfollowed := true, recurses := true, plainKeys := false, apart := false, narrowed := true }
def DriveProbesUptoSaid : Prop := driveProbesUptoRow.holds Tryz.pinned (OpenSpec.upto driveProbesSpec)

/-- 'conchlaw18.TabsBytes', WHERE WHAT IT READS IS OF BULK AT MOST 1048576: true; the input reads as it did. -/
def tabsBytesUptoRow : OpenClaim := { program := "ythlbjgabhpdbfaagreat", sum := "7eb160e7a4938da5106ccbf4f24ba0462cf00b81b33c33b477807dba09b056cb", func := "conch/conchlaw18.TabsBytes", spec := "tabsBytes", inPlace := ["internal/abi.NoEscape"], unfollowed := true, recurses := true, plainKeys := false, apart := false, narrowed := true }
def TabsBytesUptoSaid : Prop := tabsBytesUptoRow.holds Tryz.pinned (OpenSpec.upto tabsBytesSpec)

/-- 'conchlaw18.TabsReads', WHERE WHAT IT READS IS OF BULK AT MOST 1048576: true; the input reads as it did. -/
def tabsReadsUptoRow : OpenClaim := { program := "ythlbjgabhpdbfaagreat", sum := "7eb160e7a4938da5106ccbf4f24ba0462cf00b81b33c33b477807dba09b056cb", func := "conch/conchlaw18.TabsReads", spec := "tabsReads", inPlace := ["internal/abi.NoEscape"], unfollowed := true, recurses := true, plainKeys := false, apart := false, narrowed := true }
def TabsReadsUptoSaid : Prop := tabsReadsUptoRow.holds Tryz.pinned (OpenSpec.upto tabsReadsSpec)

/-- 'conchlaw18.TabsCut', WHERE WHAT IT READS IS OF BULK AT MOST 1048576: true; the input reads as it did. -/
def tabsCutUptoRow : OpenClaim := { program := "ythlbjgabhpdbfaagreat", sum := "7eb160e7a4938da5106ccbf4f24ba0462cf00b81b33c33b477807dba09b056cb", func := "conch/conchlaw18.TabsCut", spec := "tabsCut", inPlace := ["internal/abi.NoEscape"], unfollowed := true, recurses := true, plainKeys := false, apart := false, narrowed := true }
def TabsCutUptoSaid : Prop := tabsCutUptoRow.holds Tryz.pinned (OpenSpec.upto tabsCutSpec)

/-- 'conchlaw20.DriveTwins', WHERE WHAT IT READS IS OF BULK AT MOST 1048576: true; the input reads as it did. -/
def driveTwinsUptoRow : OpenClaim := { program := "ythlbjgabhpdbfaagreat", sum := "7eb160e7a4938da5106ccbf4f24ba0462cf00b81b33c33b477807dba09b056cb", func := "conch/conchlaw20.DriveTwins", spec := "driveTwins", inPlace := ["internal/abi.NoEscape"], unfollowed := true, recurses := true, plainKeys := false, apart := false, narrowed := true }
def DriveTwinsUptoSaid : Prop := driveTwinsUptoRow.holds Tryz.pinned (OpenSpec.upto driveTwinsSpec)

/-- 'conchlaw20.DriveNone', WHERE WHAT IT READS IS OF BULK AT MOST 1048576: true; the input reads as it did. -/
def driveNoneUptoRow : OpenClaim := { program := "ythlbjgabhpdbfaagreat", sum := "7eb160e7a4938da5106ccbf4f24ba0462cf00b81b33c33b477807dba09b056cb", func := "conch/conchlaw20.DriveNone", spec := "driveNone", inPlace := ["internal/abi.NoEscape"], unfollowed := true, recurses := true, plainKeys := false, apart := false, narrowed := true }
def DriveNoneUptoSaid : Prop := driveNoneUptoRow.holds Tryz.pinned (OpenSpec.upto driveNoneSpec)

/-- 'conchlaw21.RunsWords', WHERE WHAT IT READS IS OF BULK AT MOST 1048576: true; the input reads as it did. -/
def runsWordsUptoRow : OpenClaim := { program := "ythlbjgabhpdbfaagreat", sum := "7eb160e7a4938da5106ccbf4f24ba0462cf00b81b33c33b477807dba09b056cb", func := "conch/conchlaw21.RunsWords", spec := "runsWords", inPlace := ["internal/abi.NoEscape"], unfollowed := true, recurses := true, plainKeys := false, apart := false, narrowed := true }
def RunsWordsUptoSaid : Prop := runsWordsUptoRow.holds Tryz.pinned (OpenSpec.upto runsWordsSpec)

/-- 'conchlaw21.RunsFirst', WHERE WHAT IT READS IS OF BULK AT MOST 1048576: true; the input reads as it did. -/
def runsFirstUptoRow : OpenClaim := { program := "ythlbjgabhpdbfaagreat", sum := "7eb160e7a4938da5106ccbf4f24ba0462cf00b81b33c33b477807dba09b056cb", func := "conch/conchlaw21.RunsFirst", spec := "runsFirst", inPlace := ["internal/abi.NoEscape"], unfollowed := true, recurses := true, plainKeys := false, apart := false, narrowed := true }
def RunsFirstUptoSaid : Prop := runsFirstUptoRow.holds Tryz.pinned (OpenSpec.upto runsFirstSpec)

/-- 'conchlaw21.RunsNext', WHERE WHAT IT READS IS OF BULK AT MOST 1048576: true; the input reads as it did. -/
def runsNextUptoRow : OpenClaim := { program := "ythlbjgabhpdbfaagreat", sum := "7eb160e7a4938da5106ccbf4f24ba0462cf00b81b33c33b477807dba09b056cb", func := "conch/conchlaw21.RunsNext", spec := "runsNext", inPlace := ["internal/abi.NoEscape"], unfollowed := true, recurses := true, plainKeys := false, apart := false, narrowed := true }
def RunsNextUptoSaid : Prop := runsNextUptoRow.holds Tryz.pinned (OpenSpec.upto runsNextSpec)

/-- 'conchlaw20.DriveTree', WHERE WHAT IT READS IS OF BULK AT MOST 1048576: true; the input reads as it did. -/
def driveTreeUptoRow : OpenClaim := { program := "ythlbjgabhpdbfaagreat", sum := "7eb160e7a4938da5106ccbf4f24ba0462cf00b81b33c33b477807dba09b056cb", func := "conch/conchlaw20.DriveTree", spec := "driveTree", inPlace := ["internal/abi.NoEscape"], unfollowed := true, recurses := true, plainKeys := false, apart := false, narrowed := true }
def DriveTreeUptoSaid : Prop := driveTreeUptoRow.holds Tryz.pinned (OpenSpec.upto driveTreeSpec)

end Rows
end Go.Proofs.YthlbjgabhpdbfaaGreat

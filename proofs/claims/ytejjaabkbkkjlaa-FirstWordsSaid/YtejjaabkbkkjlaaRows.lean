/-
  No cell of these rows narrows 'for every input' (looked for: loops, veiled, ifaces, maps, wideKeys, modest, calm, conditions, laid).
  DERIVED. THE GIVEN ROWS OF THIS SEAT. 13 by the template 'for every input the law returns true; each argument reads behind the call as it read before'; 0 by the template 'total and deterministic' (their statements: YtejjaabkbkkjlaaTotals.lean).
  GIVEN WITH THE SEED: the statements are not yours to turn. If you find one false, say at which input.
  Laid BY PROGRAM, IN A SANDBOX (cutbox-rows.mjs): the forced cells as the released guide's own fill.sh prints them over the translation e2e69d057e28d6c5… (all of the seat's roots in one cut). By AI agents, Wed Nov 11 2026. No macro, syntax, notation, axiom, sorry.
-/
import Derived.Test.YtejjaabkbkkjlaaChecked
import GoSem.Claim
import GoSem.ClaimJoined
import GoSem.ClaimMapViews
import Derived.JoinedTies
import Derived.KernelRfl
namespace Go.Proofs.Ytejjaabkbkkjlaa
/- THE CELL 'sum', in the pinned program and in every row, IS THE sha256 OF THE DUMP (.gsa) THAT YtejjaabkbkkjlaaProg.lean LOADS. Nothing in Lean hashes anything: it is a label: what it is worth is what the hold of that sum in a sandbox is worth. -/
noncomputable def Try.pinned : Pinned := { name := "ytejjaabkbkkjlaa", sum := "e2e69d057e28d6c5f565672c5d27e7be037364625e7f4cff84bed1cbd24a51b1", checked := Try.checked }
namespace Rows
def none {H : Type} : Left H := { results := [], args := [] }

/-- 'conchlaw06.GramChecks': WHATEVER THE INPUT: true; the input reads as it did. -/
def gramChecksSpec : ChangeSpec := { name := "gramChecks", fn := fun _ => fun
  | [d1, d2, d3, d4] => { results := [.lit (.bool true)], args := [d1, d2, d3, d4] }
  | _ => none }
def gramChecksRow : OpenClaim := { program := "ytejjaabkbkkjlaa", sum := "e2e69d057e28d6c5f565672c5d27e7be037364625e7f4cff84bed1cbd24a51b1", func := "conch/conchlaw06.GramChecks", spec := "gramChecks", unfollowed := true, recurses := true, apart := false }
def GramChecksSaid : Prop := gramChecksRow.holds Try.pinned (OpenSpec.ofChange gramChecksSpec)

/-- ITS FALSE NEIGHBOUR: 'it returns false'. Refute it at one input. -/
def gramChecksWrong : ChangeSpec := { name := "gramChecks", fn := fun _ => fun
  | [d1, d2, d3, d4] => { results := [.lit (.bool false)], args := [d1, d2, d3, d4] }
  | _ => none }
def GramChecksWrongFalsely : Prop := gramChecksRow.holds Try.pinned (OpenSpec.ofChange gramChecksWrong)

/-- 'conchlaw06.GramNames': WHATEVER THE INPUT: true; the input reads as it did. -/
def gramNamesSpec : ChangeSpec := { name := "gramNames", fn := fun _ => fun
  | [d] => { results := [.lit (.bool true)], args := [d] }
  | _ => none }
def gramNamesRow : OpenClaim := { program := "ytejjaabkbkkjlaa", sum := "e2e69d057e28d6c5f565672c5d27e7be037364625e7f4cff84bed1cbd24a51b1", func := "conch/conchlaw06.GramNames", spec := "gramNames", unfollowed := true, recurses := true, apart := false }
def GramNamesSaid : Prop := gramNamesRow.holds Try.pinned (OpenSpec.ofChange gramNamesSpec)

/-- ITS FALSE NEIGHBOUR: 'it returns false'. Refute it at one input. -/
def gramNamesWrong : ChangeSpec := { name := "gramNames", fn := fun _ => fun
  | [d] => { results := [.lit (.bool false)], args := [d] }
  | _ => none }
def GramNamesWrongFalsely : Prop := gramNamesRow.holds Try.pinned (OpenSpec.ofChange gramNamesWrong)

/-- 'conchlaw06.GramSame': WHATEVER THE INPUT: true; the input reads as it did. -/
def gramSameSpec : ChangeSpec := { name := "gramSame", fn := fun _ => fun
  | [d1, d2] => { results := [.lit (.bool true)], args := [d1, d2] }
  | _ => none }
def gramSameRow : OpenClaim := { program := "ytejjaabkbkkjlaa", sum := "e2e69d057e28d6c5f565672c5d27e7be037364625e7f4cff84bed1cbd24a51b1", func := "conch/conchlaw06.GramSame", spec := "gramSame", unfollowed := true, recurses := true, apart := false }
def GramSameSaid : Prop := gramSameRow.holds Try.pinned (OpenSpec.ofChange gramSameSpec)

/-- ITS FALSE NEIGHBOUR: 'it returns false'. Refute it at one input. -/
def gramSameWrong : ChangeSpec := { name := "gramSame", fn := fun _ => fun
  | [d1, d2] => { results := [.lit (.bool false)], args := [d1, d2] }
  | _ => none }
def GramSameWrongFalsely : Prop := gramSameRow.holds Try.pinned (OpenSpec.ofChange gramSameWrong)

/-- 'conchlaw10.LeastTells': WHATEVER THE INPUT: true; the input reads as it did. -/
def leastTellsSpec : ChangeSpec := { name := "leastTells", fn := fun _ => fun
  | [d1, d2] => { results := [.lit (.bool true)], args := [d1, d2] }
  | _ => none }
def leastTellsRow : OpenClaim := { program := "ytejjaabkbkkjlaa", sum := "e2e69d057e28d6c5f565672c5d27e7be037364625e7f4cff84bed1cbd24a51b1", func := "conch/conchlaw10.LeastTells", spec := "leastTells", unfollowed := true, recurses := true, apart := false }
def LeastTellsSaid : Prop := leastTellsRow.holds Try.pinned (OpenSpec.ofChange leastTellsSpec)

/-- ITS FALSE NEIGHBOUR: 'it returns false'. Refute it at one input. -/
def leastTellsWrong : ChangeSpec := { name := "leastTells", fn := fun _ => fun
  | [d1, d2] => { results := [.lit (.bool false)], args := [d1, d2] }
  | _ => none }
def LeastTellsWrongFalsely : Prop := leastTellsRow.holds Try.pinned (OpenSpec.ofChange leastTellsWrong)

/-- 'conchlaw10.LeastRules': WHATEVER THE INPUT: true; the input reads as it did. -/
def leastRulesSpec : ChangeSpec := { name := "leastRules", fn := fun _ => fun
  | [d] => { results := [.lit (.bool true)], args := [d] }
  | _ => none }
def leastRulesRow : OpenClaim := { program := "ytejjaabkbkkjlaa", sum := "e2e69d057e28d6c5f565672c5d27e7be037364625e7f4cff84bed1cbd24a51b1", func := "conch/conchlaw10.LeastRules", spec := "leastRules", unfollowed := true, recurses := true, apart := false }
def LeastRulesSaid : Prop := leastRulesRow.holds Try.pinned (OpenSpec.ofChange leastRulesSpec)

/-- ITS FALSE NEIGHBOUR: 'it returns false'. Refute it at one input. -/
def leastRulesWrong : ChangeSpec := { name := "leastRules", fn := fun _ => fun
  | [d] => { results := [.lit (.bool false)], args := [d] }
  | _ => none }
def LeastRulesWrongFalsely : Prop := leastRulesRow.holds Try.pinned (OpenSpec.ofChange leastRulesWrong)

/-- 'conchlaw10.LeastLong': WHATEVER THE INPUT: true; the input reads as it did. -/
def leastLongSpec : ChangeSpec := { name := "leastLong", fn := fun _ => fun
  | [d1, d2] => { results := [.lit (.bool true)], args := [d1, d2] }
  | _ => none }
def leastLongRow : OpenClaim := { program := "ytejjaabkbkkjlaa", sum := "e2e69d057e28d6c5f565672c5d27e7be037364625e7f4cff84bed1cbd24a51b1", func := "conch/conchlaw10.LeastLong", spec := "leastLong", unfollowed := true, recurses := true, apart := false }
def LeastLongSaid : Prop := leastLongRow.holds Try.pinned (OpenSpec.ofChange leastLongSpec)

/-- ITS FALSE NEIGHBOUR: 'it returns false'. Refute it at one input. -/
def leastLongWrong : ChangeSpec := { name := "leastLong", fn := fun _ => fun
  | [d1, d2] => { results := [.lit (.bool false)], args := [d1, d2] }
  | _ => none }
def LeastLongWrongFalsely : Prop := leastLongRow.holds Try.pinned (OpenSpec.ofChange leastLongWrong)

/-- 'conchlaw09.LiveTells': WHATEVER THE INPUT: true; the input reads as it did. -/
def liveTellsSpec : ChangeSpec := { name := "liveTells", fn := fun _ => fun
  | [d] => { results := [.lit (.bool true)], args := [d] }
  | _ => none }
def liveTellsRow : OpenClaim := { program := "ytejjaabkbkkjlaa", sum := "e2e69d057e28d6c5f565672c5d27e7be037364625e7f4cff84bed1cbd24a51b1", func := "conch/conchlaw09.LiveTells", spec := "liveTells", unfollowed := true, recurses := true, apart := false }
def LiveTellsSaid : Prop := liveTellsRow.holds Try.pinned (OpenSpec.ofChange liveTellsSpec)

/-- ITS FALSE NEIGHBOUR: 'it returns false'. Refute it at one input. -/
def liveTellsWrong : ChangeSpec := { name := "liveTells", fn := fun _ => fun
  | [d] => { results := [.lit (.bool false)], args := [d] }
  | _ => none }
def LiveTellsWrongFalsely : Prop := liveTellsRow.holds Try.pinned (OpenSpec.ofChange liveTellsWrong)

/-- 'conchlaw09.LiveTrims': WHATEVER THE INPUT: true; the input reads as it did. -/
def liveTrimsSpec : ChangeSpec := { name := "liveTrims", fn := fun _ => fun
  | [d] => { results := [.lit (.bool true)], args := [d] }
  | _ => none }
def liveTrimsRow : OpenClaim := { program := "ytejjaabkbkkjlaa", sum := "e2e69d057e28d6c5f565672c5d27e7be037364625e7f4cff84bed1cbd24a51b1", func := "conch/conchlaw09.LiveTrims", spec := "liveTrims", unfollowed := true, recurses := true, apart := false }
def LiveTrimsSaid : Prop := liveTrimsRow.holds Try.pinned (OpenSpec.ofChange liveTrimsSpec)

/-- ITS FALSE NEIGHBOUR: 'it returns false'. Refute it at one input. -/
def liveTrimsWrong : ChangeSpec := { name := "liveTrims", fn := fun _ => fun
  | [d] => { results := [.lit (.bool false)], args := [d] }
  | _ => none }
def LiveTrimsWrongFalsely : Prop := liveTrimsRow.holds Try.pinned (OpenSpec.ofChange liveTrimsWrong)

/-- 'conchlaw09.LiveStays': WHATEVER THE INPUT: true; the input reads as it did. -/
def liveStaysSpec : ChangeSpec := { name := "liveStays", fn := fun _ => fun
  | [d] => { results := [.lit (.bool true)], args := [d] }
  | _ => none }
def liveStaysRow : OpenClaim := { program := "ytejjaabkbkkjlaa", sum := "e2e69d057e28d6c5f565672c5d27e7be037364625e7f4cff84bed1cbd24a51b1", func := "conch/conchlaw09.LiveStays", spec := "liveStays", unfollowed := true, recurses := true, apart := false }
def LiveStaysSaid : Prop := liveStaysRow.holds Try.pinned (OpenSpec.ofChange liveStaysSpec)

/-- ITS FALSE NEIGHBOUR: 'it returns false'. Refute it at one input. -/
def liveStaysWrong : ChangeSpec := { name := "liveStays", fn := fun _ => fun
  | [d] => { results := [.lit (.bool false)], args := [d] }
  | _ => none }
def LiveStaysWrongFalsely : Prop := liveStaysRow.holds Try.pinned (OpenSpec.ofChange liveStaysWrong)

/-- 'conchlaw09.LiveMore': WHATEVER THE INPUT: true; the input reads as it did. -/
def liveMoreSpec : ChangeSpec := { name := "liveMore", fn := fun _ => fun
  | [d1, d2] => { results := [.lit (.bool true)], args := [d1, d2] }
  | _ => none }
def liveMoreRow : OpenClaim := { program := "ytejjaabkbkkjlaa", sum := "e2e69d057e28d6c5f565672c5d27e7be037364625e7f4cff84bed1cbd24a51b1", func := "conch/conchlaw09.LiveMore", spec := "liveMore", unfollowed := true, recurses := true, apart := false }
def LiveMoreSaid : Prop := liveMoreRow.holds Try.pinned (OpenSpec.ofChange liveMoreSpec)

/-- ITS FALSE NEIGHBOUR: 'it returns false'. Refute it at one input. -/
def liveMoreWrong : ChangeSpec := { name := "liveMore", fn := fun _ => fun
  | [d1, d2] => { results := [.lit (.bool false)], args := [d1, d2] }
  | _ => none }
def LiveMoreWrongFalsely : Prop := liveMoreRow.holds Try.pinned (OpenSpec.ofChange liveMoreWrong)

/-- 'conchlaw11.FirstTells': WHATEVER THE INPUT: true; the input reads as it did. -/
def firstTellsSpec : ChangeSpec := { name := "firstTells", fn := fun _ => fun
  | [d1, d2] => { results := [.lit (.bool true)], args := [d1, d2] }
  | _ => none }
def firstTellsRow : OpenClaim := { program := "ytejjaabkbkkjlaa", sum := "e2e69d057e28d6c5f565672c5d27e7be037364625e7f4cff84bed1cbd24a51b1", func := "conch/conchlaw11.FirstTells", spec := "firstTells", unfollowed := true, recurses := true, apart := false }
def FirstTellsSaid : Prop := firstTellsRow.holds Try.pinned (OpenSpec.ofChange firstTellsSpec)

/-- ITS FALSE NEIGHBOUR: 'it returns false'. Refute it at one input. -/
def firstTellsWrong : ChangeSpec := { name := "firstTells", fn := fun _ => fun
  | [d1, d2] => { results := [.lit (.bool false)], args := [d1, d2] }
  | _ => none }
def FirstTellsWrongFalsely : Prop := firstTellsRow.holds Try.pinned (OpenSpec.ofChange firstTellsWrong)

/-- 'conchlaw11.FirstRules': WHATEVER THE INPUT: true; the input reads as it did. -/
def firstRulesSpec : ChangeSpec := { name := "firstRules", fn := fun _ => fun
  | [d] => { results := [.lit (.bool true)], args := [d] }
  | _ => none }
def firstRulesRow : OpenClaim := { program := "ytejjaabkbkkjlaa", sum := "e2e69d057e28d6c5f565672c5d27e7be037364625e7f4cff84bed1cbd24a51b1", func := "conch/conchlaw11.FirstRules", spec := "firstRules", unfollowed := true, recurses := true, apart := false }
def FirstRulesSaid : Prop := firstRulesRow.holds Try.pinned (OpenSpec.ofChange firstRulesSpec)

/-- ITS FALSE NEIGHBOUR: 'it returns false'. Refute it at one input. -/
def firstRulesWrong : ChangeSpec := { name := "firstRules", fn := fun _ => fun
  | [d] => { results := [.lit (.bool false)], args := [d] }
  | _ => none }
def FirstRulesWrongFalsely : Prop := firstRulesRow.holds Try.pinned (OpenSpec.ofChange firstRulesWrong)

/-- 'conchlaw11.FirstWords': WHATEVER THE INPUT: true; the input reads as it did. -/
def firstWordsSpec : ChangeSpec := { name := "firstWords", fn := fun _ => fun
  | [d] => { results := [.lit (.bool true)], args := [d] }
  | _ => none }
def firstWordsRow : OpenClaim := { program := "ytejjaabkbkkjlaa", sum := "e2e69d057e28d6c5f565672c5d27e7be037364625e7f4cff84bed1cbd24a51b1", func := "conch/conchlaw11.FirstWords", spec := "firstWords", unfollowed := true, recurses := true, apart := false }
def FirstWordsSaid : Prop := firstWordsRow.holds Try.pinned (OpenSpec.ofChange firstWordsSpec)

/-- ITS FALSE NEIGHBOUR: 'it returns false'. Refute it at one input. -/
def firstWordsWrong : ChangeSpec := { name := "firstWords", fn := fun _ => fun
  | [d] => { results := [.lit (.bool false)], args := [d] }
  | _ => none }
def FirstWordsWrongFalsely : Prop := firstWordsRow.holds Try.pinned (OpenSpec.ofChange firstWordsWrong)

/- THE SECOND FORM. 'bulk': how many values and letters a reading holds, each counted each time it is reached (what is shared counts as often as it is met; a slice's spare places count too). A statement '..UptoSaid' is the law's where the arguments, and the package variables that the reading takes, are together of bulk at most 1048576: NARROWER than '..Said'. Prove '..Said' where nothing that the law and all that it calls make is longer than what came in: it says more and counts as full. Else prove '..UptoSaid'. A law counts once. -/
mutual
def uptoBulk {H : Type} : DataW H → Nat
  | .lit (.string bytes) => bytes.length + 1
  | .lit _ => 1
  | .nil => 1
  | .ptr d => uptoBulk d + 1
  | .slice elems spare => uptoBulkAll elems + uptoBulkAll spare + 1
  | .agg parts => uptoBulkAll parts + 1
  | .iface _ d => uptoBulk d + 1
  | .map entries => uptoBulkEntries entries + 1
  | .held _ => 1
def uptoBulkAll {H : Type} : List (DataW H) → Nat
  | [] => 0
  | d :: r => uptoBulk d + uptoBulkAll r
def uptoBulkEntries {H : Type} : List (Lit × DataW H) → Nat
  | [] => 0
  | x :: r => uptoBulkEntry x + uptoBulkEntries r
def uptoBulkEntry {H : Type} : Lit × DataW H → Nat
  | (.string bytes, d) => bytes.length + uptoBulk d + 1
  | (_, d) => uptoBulk d + 1
 end
def uptoSmall : (H : Type) → List (DataW H) → Bool := fun _ ds => decide (uptoBulkAll ds ≤ 1048576)
def OpenSpec.upto (s : _root_.Go.ChangeSpec) : _root_.Go.OpenSpec := { _root_.Go.OpenSpec.ofChange s with cond := some uptoSmall }

/-- 'conchlaw06.GramChecks', WHERE WHAT IT READS IS OF BULK AT MOST 1048576: true; the input reads as it did. -/
def gramChecksUptoRow : OpenClaim := { program := "ytejjaabkbkkjlaa", sum := "e2e69d057e28d6c5f565672c5d27e7be037364625e7f4cff84bed1cbd24a51b1", func := "conch/conchlaw06.GramChecks", spec := "gramChecks", unfollowed := true, recurses := true, apart := false, narrowed := true }
def GramChecksUptoSaid : Prop := gramChecksUptoRow.holds Try.pinned (OpenSpec.upto gramChecksSpec)

/-- 'conchlaw06.GramNames', WHERE WHAT IT READS IS OF BULK AT MOST 1048576: true; the input reads as it did. -/
def gramNamesUptoRow : OpenClaim := { program := "ytejjaabkbkkjlaa", sum := "e2e69d057e28d6c5f565672c5d27e7be037364625e7f4cff84bed1cbd24a51b1", func := "conch/conchlaw06.GramNames", spec := "gramNames", unfollowed := true, recurses := true, apart := false, narrowed := true }
def GramNamesUptoSaid : Prop := gramNamesUptoRow.holds Try.pinned (OpenSpec.upto gramNamesSpec)

/-- 'conchlaw06.GramSame', WHERE WHAT IT READS IS OF BULK AT MOST 1048576: true; the input reads as it did. -/
def gramSameUptoRow : OpenClaim := { program := "ytejjaabkbkkjlaa", sum := "e2e69d057e28d6c5f565672c5d27e7be037364625e7f4cff84bed1cbd24a51b1", func := "conch/conchlaw06.GramSame", spec := "gramSame", unfollowed := true, recurses := true, apart := false, narrowed := true }
def GramSameUptoSaid : Prop := gramSameUptoRow.holds Try.pinned (OpenSpec.upto gramSameSpec)

/-- 'conchlaw10.LeastTells', WHERE WHAT IT READS IS OF BULK AT MOST 1048576: true; the input reads as it did. -/
def leastTellsUptoRow : OpenClaim := { program := "ytejjaabkbkkjlaa", sum := "e2e69d057e28d6c5f565672c5d27e7be037364625e7f4cff84bed1cbd24a51b1", func := "conch/conchlaw10.LeastTells", spec := "leastTells", unfollowed := true, recurses := true, apart := false, narrowed := true }
def LeastTellsUptoSaid : Prop := leastTellsUptoRow.holds Try.pinned (OpenSpec.upto leastTellsSpec)

/-- 'conchlaw10.LeastRules', WHERE WHAT IT READS IS OF BULK AT MOST 1048576: true; the input reads as it did. -/
def leastRulesUptoRow : OpenClaim := { program := "ytejjaabkbkkjlaa", sum := "e2e69d057e28d6c5f565672c5d27e7be037364625e7f4cff84bed1cbd24a51b1", func := "conch/conchlaw10.LeastRules", spec := "leastRules", unfollowed := true, recurses := true, apart := false, narrowed := true }
def LeastRulesUptoSaid : Prop := leastRulesUptoRow.holds Try.pinned (OpenSpec.upto leastRulesSpec)

/-- 'conchlaw10.LeastLong', WHERE WHAT IT READS IS OF BULK AT MOST 1048576: true; the input reads as it did. -/
def leastLongUptoRow : OpenClaim := { program := "ytejjaabkbkkjlaa", sum := "e2e69d057e28d6c5f565672c5d27e7be037364625e7f4cff84bed1cbd24a51b1", func := "conch/conchlaw10.LeastLong", spec := "leastLong", unfollowed := true, recurses := true, apart := false, narrowed := true }
def LeastLongUptoSaid : Prop := leastLongUptoRow.holds Try.pinned (OpenSpec.upto leastLongSpec)

/-- 'conchlaw09.LiveTells', WHERE WHAT IT READS IS OF BULK AT MOST 1048576: true; the input reads as it did. -/
def liveTellsUptoRow : OpenClaim := { program := "ytejjaabkbkkjlaa", sum := "e2e69d057e28d6c5f565672c5d27e7be037364625e7f4cff84bed1cbd24a51b1", func := "conch/conchlaw09.LiveTells", spec := "liveTells", unfollowed := true, recurses := true, apart := false, narrowed := true }
def LiveTellsUptoSaid : Prop := liveTellsUptoRow.holds Try.pinned (OpenSpec.upto liveTellsSpec)

/-- 'conchlaw09.LiveTrims', WHERE WHAT IT READS IS OF BULK AT MOST 1048576: true; the input reads as it did. -/
def liveTrimsUptoRow : OpenClaim := { program := "ytejjaabkbkkjlaa", sum := "e2e69d057e28d6c5f565672c5d27e7be037364625e7f4cff84bed1cbd24a51b1", func := "conch/conchlaw09.LiveTrims", spec := "liveTrims", unfollowed := true, recurses := true, apart := false, narrowed := true }
def LiveTrimsUptoSaid : Prop := liveTrimsUptoRow.holds Try.pinned (OpenSpec.upto liveTrimsSpec)

/-- 'conchlaw09.LiveStays', WHERE WHAT IT READS IS OF BULK AT MOST 1048576: true; the input reads as it did. -/
def liveStaysUptoRow : OpenClaim := { program := "ytejjaabkbkkjlaa", sum := "e2e69d057e28d6c5f565672c5d27e7be037364625e7f4cff84bed1cbd24a51b1", func := "conch/conchlaw09.LiveStays", spec := "liveStays", unfollowed := true, recurses := true, apart := false, narrowed := true }
def LiveStaysUptoSaid : Prop := liveStaysUptoRow.holds Try.pinned (OpenSpec.upto liveStaysSpec)

/-- 'conchlaw09.LiveMore', WHERE WHAT IT READS IS OF BULK AT MOST 1048576: true; the input reads as it did. -/
def liveMoreUptoRow : OpenClaim := { program := "ytejjaabkbkkjlaa", sum := "e2e69d057e28d6c5f565672c5d27e7be037364625e7f4cff84bed1cbd24a51b1", func := "conch/conchlaw09.LiveMore", spec := "liveMore", unfollowed := true, recurses := true, apart := false, narrowed := true }
def LiveMoreUptoSaid : Prop := liveMoreUptoRow.holds Try.pinned (OpenSpec.upto liveMoreSpec)

/-- 'conchlaw11.FirstTells', WHERE WHAT IT READS IS OF BULK AT MOST 1048576: true; the input reads as it did. -/
def firstTellsUptoRow : OpenClaim := { program := "ytejjaabkbkkjlaa", sum := "e2e69d057e28d6c5f565672c5d27e7be037364625e7f4cff84bed1cbd24a51b1", func := "conch/conchlaw11.FirstTells", spec := "firstTells", unfollowed := true, recurses := true, apart := false, narrowed := true }
def FirstTellsUptoSaid : Prop := firstTellsUptoRow.holds Try.pinned (OpenSpec.upto firstTellsSpec)

/-- 'conchlaw11.FirstRules', WHERE WHAT IT READS IS OF BULK AT MOST 1048576: true; the input reads as it did. -/
def firstRulesUptoRow : OpenClaim := { program := "ytejjaabkbkkjlaa", sum := "e2e69d057e28d6c5f565672c5d27e7be037364625e7f4cff84bed1cbd24a51b1", func := "conch/conchlaw11.FirstRules", spec := "firstRules", unfollowed := true, recurses := true, apart := false, narrowed := true }
def FirstRulesUptoSaid : Prop := firstRulesUptoRow.holds Try.pinned (OpenSpec.upto firstRulesSpec)

/-- 'conchlaw11.FirstWords', WHERE WHAT IT READS IS OF BULK AT MOST 1048576: true; the input reads as it did. -/
def firstWordsUptoRow : OpenClaim := { program := "ytejjaabkbkkjlaa", sum := "e2e69d057e28d6c5f565672c5d27e7be037364625e7f4cff84bed1cbd24a51b1", func := "conch/conchlaw11.FirstWords", spec := "firstWords", unfollowed := true, recurses := true, apart := false, narrowed := true }
def FirstWordsUptoSaid : Prop := firstWordsUptoRow.holds Try.pinned (OpenSpec.upto firstWordsSpec)

end Rows
end Go.Proofs.Ytejjaabkbkkjlaa

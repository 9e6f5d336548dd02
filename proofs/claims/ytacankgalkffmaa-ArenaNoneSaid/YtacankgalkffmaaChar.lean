/- The classes of bytes: the reference's. -/
import Derived.Test.YtacankgalkffmaaBase
import Derived.Test.YtacankgalkffmaaProg
namespace Go.Proofs.Ytacankgalkffmaa
set_option linter.unusedVariables false
open Go.RowKit
def classOf (c : Int) : Int := if c = 0 then 0 else if c = 32 ∨ c = 9 then 1 else if c = 10 then 2 else if 48 ≤ c ∧ c ≤ 57 then 3 else if (97 ≤ c ∧ c ≤ 122) ∨ (65 ≤ c ∧ c ≤ 90) ∨ c = 95 then 4 else if c = 38 ∨ c = 124 ∨ c = 59 ∨ c = 60 ∨ c = 62 ∨ c = 40 ∨ c = 41 then 5 else if c = 39 ∨ c = 34 ∨ c = 92 ∨ c = 96 then 6 else if c = 36 then 7 else 8
end Go.Proofs.Ytacankgalkffmaa

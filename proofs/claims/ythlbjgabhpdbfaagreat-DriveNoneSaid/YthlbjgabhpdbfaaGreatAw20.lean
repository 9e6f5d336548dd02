/- The statements' closed example of layer 20, reckoned out. -/
import Derived.Test.YthlbjgabhpdbfaaGreatEvW
namespace Go.Proofs.YthlbjgabhpdbfaaGreat
open Go.RowKit
set_option maxRecDepth 1000000 in
theorem law20_awake (w : World) : Calls Tryz.prog 37 #[] w fun e w' => e = .returned (.bool true) ∧ Below w.heap.size w w' := ev_calls (n := 200000) (by kernel_rfl) w
end Go.Proofs.YthlbjgabhpdbfaaGreat

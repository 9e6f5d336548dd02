/- The reckoning machine at this program: its tables. -/
import Derived.Test.YthlbjgabhpdbfaaGreatEvF
import Derived.Test.YthlbjgabhpdbfaaGreatProg
namespace Go.Proofs.YthlbjgabhpdbfaaGreat
set_option linter.unusedVariables false
open Go.RowKit Go.Lib
noncomputable def evTab : Ev.Tab := Ev.mkTab Tryz.prog 216 []
theorem evTab_ok : Ev.TabOK evTab ∧ Ev.FldOK evTab :=
 Ev.mkTab_ok (by kernel_rfl) (Ev.esc_ok Tryz.func216 (by kernel_rfl) (by kernel_rfl) (by kernel_rfl) (by kernel_rfl)) (fun f e h => (by cases h)) (by kernel_rfl)
theorem ev_calls {f : FuncId} {n : Nat} (e : Ev.evalT evTab f n = true) (w : World) : Calls Tryz.prog f #[] w fun e w' => e = .returned (.bool true) ∧ Below w.heap.size w w' :=
 (Ev.evalT_ok evTab_ok.1 evTab_ok.2 evTab_ok.1.mixed e w).mono fun e w' h => by
  cases e with
  | returned v => obtain ⟨rfl, hb⟩ := h; exact ⟨rfl, hb⟩
  | panicked c => exact h.elim
  | outgrown => exact h.elim
end Go.Proofs.YthlbjgabhpdbfaaGreat

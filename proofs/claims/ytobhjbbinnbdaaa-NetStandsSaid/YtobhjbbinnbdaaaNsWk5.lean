/-
  The chapter's examples of layer 5 hold: the kernel has run them. Conditions: none.
-/
import Derived.Test.YtobhjbbinnbdaaaNsTabW
import Derived.Test.YtobhjbbinnbdaaaNsMx22
namespace Go.Proofs.Ytobhjbbinnbdaaa.W
open Go Go.Mx
set_option linter.unusedSimpArgs false
set_option linter.unusedVariables false
set_option maxRecDepth 100000
theorem mixed : Try.prog.follows .mixedOrders = true := by kernel_rfl
theorem works_run : okTrueY ((Mx.runY noD (lookT tab) 60).call 0 37 [] HY.empty) = true := by kernel_rfl
theorem works_calls (w : World) : Calls Try.prog 37 #[] w fun e w' => e = .returned (.bool true) ∧ Go.RowKit.Below w.heap.size w w' :=
  calls_of_runY mixed tab_ok (noD_ok _) works_run w
end Go.Proofs.Ytobhjbbinnbdaaa.W

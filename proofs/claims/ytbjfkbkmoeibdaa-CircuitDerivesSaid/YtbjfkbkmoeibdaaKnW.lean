/-
  wakes returns true: the kernel has run it. Conditions: none.
-/
import Derived.Test.YtbjfkbkmoeibdaaMx22
import Derived.Test.YtbjfkbkmoeibdaaTabC
namespace Go.Proofs.Ytbjfkbkmoeibdaa.C
open Go Go.Mx
set_option linter.unusedSimpArgs false
set_option linter.unusedVariables false
set_option maxRecDepth 100000
theorem mixed : Try.prog.follows .mixedOrders = true := by kernel_rfl
theorem wakes_run : okTrueY ((Mx.runY noD (lookT tab) 60).call 0 10 [] HY.empty) = true := by kernel_rfl
theorem wakes_calls (w : World) : Calls Try.prog 10 #[] w fun e w' => e = .returned (.bool true) ∧ Go.RowKit.Below w.heap.size w w' :=
  calls_of_runY mixed tab_ok (noD_ok _) wakes_run w
end Go.Proofs.Ytbjfkbkmoeibdaa.C

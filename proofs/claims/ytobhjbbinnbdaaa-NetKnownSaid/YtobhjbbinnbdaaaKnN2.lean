/-
  NetKnown returns true: the kernel has run it, with the examples known to hold. Conditions: none.
-/
import Derived.Test.YtobhjbbinnbdaaaKnN
namespace Go.Proofs.Ytobhjbbinnbdaaa.N
open Go Go.Mx
set_option linter.unusedSimpArgs false
set_option linter.unusedVariables false
set_option maxRecDepth 100000
theorem known_run : okTrueY ((Mx.runY dW (lookT tab) 60).call 0 12 [] HY.empty) = true := by kernel_rfl
theorem known_calls (w : World) : Calls Try.prog 12 #[] w fun e w' => e = .returned (.bool true) ∧ Go.RowKit.Below w.heap.size w w' :=
  calls_of_runY mixed tab_ok dW_ok known_run w
end Go.Proofs.Ytobhjbbinnbdaaa.N

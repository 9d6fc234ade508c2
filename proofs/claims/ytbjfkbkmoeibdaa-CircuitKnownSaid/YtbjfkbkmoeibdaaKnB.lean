/-
  CircuitKnown returns true: the kernel has run it, with the oracle of Kn1. Conditions: none.
-/
import Derived.Test.YtbjfkbkmoeibdaaKnA
namespace Go.Proofs.Ytbjfkbkmoeibdaa
open Go Go.Mx
set_option linter.unusedSimpArgs false
set_option linter.unusedVariables false
set_option maxRecDepth 100000
theorem known_run : okTrueY ((Mx.runY dK (lookT tab) 60).call 0 8 [] HY.empty) = true := by kernel_rfl
theorem known_calls (w : World) : Calls Try.prog 8 #[] w fun e w' => e = .returned (.bool true) ∧ Go.RowKit.Below w.heap.size w w' :=
  calls_of_runY mixed tab_ok (dK_ok mixed (fun f fn h => tab_ok _ (lookT_mem tab f fn h)) (by kernel_rfl) wakes_calls) known_run w
end Go.Proofs.Ytbjfkbkmoeibdaa

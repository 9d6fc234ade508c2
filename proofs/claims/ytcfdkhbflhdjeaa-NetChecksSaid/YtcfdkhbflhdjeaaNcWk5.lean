/-
 The chapter's examples of layer 5 hold: the kernel has run them. Conditions: none.
-/
import Derived.Test.YtcfdkhbflhdjeaaNcTabW
import Derived.Test.YtcfdkhbflhdjeaaNcMx22
set_option linter.unusedSimpArgs false
set_option linter.unusedVariables false
set_option maxRecDepth 100000
namespace Go.Proofs.Ytcfdkhbflhdjeaa.W
open Go Go.Mx
theorem mixed:Try.prog.follows .mixedOrders=true:=by kernel_rfl
theorem zqv:zlZ ((Mx.ztf noD (zq2 tab) 60).call 0 5 [] HY.empty)=true:=by kernel_rfl
theorem zlE(w:World):Calls Try.prog 5 #[] w fun e w'=>e=.returned (.bool true)∧Go.RowKit.Below w.heap.size w w':=
 zjj mixed (zmU tab) (zuZ _) zqv w
end Go.Proofs.Ytcfdkhbflhdjeaa.W

/-
 The chapter's examples of layer 5 hold: the kernel has run them. Conditions: none.
-/
import Derived.Test.YtnfgibomhkbcpaaNtTabW
import Derived.Test.YtnfgibomhkbcpaaNtMx22
set_option linter.unusedSimpArgs false
set_option linter.unusedVariables false
set_option maxRecDepth 100000
namespace Go.Proofs.Ytnfgibomhkbcpaa.W
open Go Go.Mx
theorem mixed:Try.prog.follows .mixedOrders=true:=by kernel_rfl
theorem zs5:znI ((Mx.zxb noD (zud tab) 60).call 0 14 [] HY.empty)=true:=by kernel_rfl
theorem zn7(w:World):Calls Try.prog 14 #[] w fun e w'=>e=.returned (.bool true)∧Go.RowKit.Below w.heap.size w w':=
 zkw mixed (zoI tab) (zzy _) zs5 w
end Go.Proofs.Ytnfgibomhkbcpaa.W

/-
 The chapter's examples of layer 5 hold: the kernel has run them. Conditions: none.
-/
import Derived.Test.YtnfgibomhkbcpaaNfTabW
import Derived.Test.YtnfgibomhkbcpaaNfMx22
set_option linter.unusedSimpArgs false
set_option linter.unusedVariables false
set_option maxRecDepth 100000
namespace Go.Proofs.Ytnfgibomhkbcpaa.W
open Go Go.Mx
theorem mixed:Try.prog.follows .mixedOrders=true:=by kernel_rfl
theorem zrg:zmv ((Mx.zuQ noD (zty tab) 60).call 0 14 [] HY.empty)=true:=by kernel_rfl
theorem zmi(w:World):Calls Try.prog 14 #[] w fun e w'=>e=.returned (.bool true)∧Go.RowKit.Below w.heap.size w w':=
 zjp mixed (zn0 tab) (zxB _) zrg w
end Go.Proofs.Ytnfgibomhkbcpaa.W

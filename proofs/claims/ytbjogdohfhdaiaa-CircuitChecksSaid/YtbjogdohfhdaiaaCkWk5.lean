/-
 The chapter's examples of layer 5 hold: the kernel has run them. Conditions: none.
-/
import Derived.Test.YtbjogdohfhdaiaaCkTabW
import Derived.Test.YtbjogdohfhdaiaaCkMx22
set_option linter.unusedSimpArgs false
set_option linter.unusedVariables false
set_option maxRecDepth 100000
namespace Go.Proofs.Ytbjogdohfhdaiaa.W
open Go Go.Mx
theorem mixed:Try.prog.follows .mixedOrders=true:=by kernel_rfl
theorem zp7:zkP ((Mx.zsi noD (zqG tab) 60).call 0 8 [] HY.empty)=true:=by kernel_rfl
theorem zkJ(w:World):Calls Try.prog 8 #[] w λe w'=>e=.returned (.bool true)/\Go.RowKit.Below w.heap.size w w':=
 zjk mixed (zlV tab) (zt4 _) zp7 w
end Go.Proofs.Ytbjogdohfhdaiaa.W

/-
 The chapter's examples of layer 5 hold: the kernel has run them. Conditions: none.
-/
import Derived.Test.YtbjogdohfhdaiaaCfTabW
import Derived.Test.YtbjogdohfhdaiaaCfMx22
set_option linter.unusedSimpArgs false
set_option linter.unusedVariables false
set_option maxRecDepth 100000
namespace Go.Proofs.Ytbjogdohfhdaiaa.W
open Go Go.Mx
theorem mixed:Try.prog.follows .mixedOrders=true:=by kernel_rfl
theorem ztA:znJ ((Mx.zzl noD (zwL tab) 60).call 0 8 [] HY.empty)=true:=by kernel_rfl
theorem zn5(w:World):Calls Try.prog 8 #[] w λe w'=>e=.returned (.bool true)/\Go.RowKit.Below w.heap.size w w':=
 zkl mixed (zpD tab) (zzZ _) ztA w
end Go.Proofs.Ytbjogdohfhdaiaa.W

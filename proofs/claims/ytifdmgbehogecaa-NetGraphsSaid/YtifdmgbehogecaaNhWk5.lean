/-
 The chapter's examples of layer 5 hold: the kernel has run them. Conditions: none.
-/
import Derived.Test.YtifdmgbehogecaaNhTabW
import Derived.Test.YtifdmgbehogecaaNhMx22
set_option linter.unusedSimpArgs false
set_option linter.unusedVariables false
set_option maxRecDepth 100000
namespace Go.Proofs.Ytifdmgbehogecaa.W
open Go Go.Mx
theorem mixed:Try.prog.follows .mixedOrders=true:=by kernel_rfl
theorem zp7:zl3 ((Mx.zsT noD (zrF tab) 60).call 0 5 [] HY.empty)=true:=by kernel_rfl
theorem zlq(w:World):Calls Try.prog 5 #[] w fun e w'=>e=.returned (.bool true)∧Go.RowKit.Below w.heap.size w w':=
 zje mixed (znk tab) (zuH _) zp7 w
end Go.Proofs.Ytifdmgbehogecaa.W

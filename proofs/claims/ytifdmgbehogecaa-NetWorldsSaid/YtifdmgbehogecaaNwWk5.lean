/-
 The chapter's examples of layer 5 hold: the kernel has run them. Conditions: none.
-/
import Derived.Test.YtifdmgbehogecaaNwTabW
import Derived.Test.YtifdmgbehogecaaNwMx22
set_option linter.unusedSimpArgs false
set_option linter.unusedVariables false
set_option maxRecDepth 100000
namespace Go.Proofs.Ytifdmgbehogecaa.W
open Go Go.Mx
theorem mixed:Try.prog.follows .mixedOrders=true:=by kernel_rfl
theorem zoQ:zmh ((Mx.ztU noD (zrD tab) 60).call 0 5 [] HY.empty)=true:=by kernel_rfl
theorem zl1(w:World):Calls Try.prog 5 #[] w fun e w'=>e=.returned (.bool true)∧Go.RowKit.Below w.heap.size w w':=
 zjp mixed (znx tab) (zvK _) zoQ w
end Go.Proofs.Ytifdmgbehogecaa.W

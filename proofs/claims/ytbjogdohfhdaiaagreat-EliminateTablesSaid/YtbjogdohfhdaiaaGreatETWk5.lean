/-
 The chapter's examples hold: the kernel has run them, in pieces. Conditions: none.
-/
import Derived.Test.YtbjogdohfhdaiaaGreatETWc1
import Derived.Test.YtbjogdohfhdaiaaGreatETWc4
import Derived.Test.YtbjogdohfhdaiaaGreatETWc3
set_option linter.unusedSimpArgs false
set_option linter.unusedVariables false
set_option maxRecDepth 100000
namespace Go.Proofs.YtbjogdohfhdaiaaGreat.W
open Go Go.Mx
theorem zv3:zpT ((zyD [c1,c2,c3] (znJ tab) 200).call 0 10 [] HY.empty)=true:=by kernel_rfl
theorem zpn(w:World):Calls Tryz.prog 10 #[] w λe w'=>e=.returned (.bool true)/\Go.RowKit.Below w.heap.size w w':=
 zlm mixed (zgx tab) ziq (λc hc=>by
  simp only[qax,qbO,or_false]at hc;rcases hc with rfl | rfl | rfl
  .exact k1
  .exact k2
  exact k3) zv3 w
end Go.Proofs.YtbjogdohfhdaiaaGreat.W

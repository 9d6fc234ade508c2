/-
 The chapter's examples hold: the kernel has run them, in pieces. Conditions: none.
-/
import Derived.Test.YtbjogdohfhdaiaaGreatEcWc1
import Derived.Test.YtbjogdohfhdaiaaGreatEcWc4
import Derived.Test.YtbjogdohfhdaiaaGreatEcWc3
set_option linter.unusedSimpArgs false
set_option linter.unusedVariables false
set_option maxRecDepth 100000
namespace Go.Proofs.YtbjogdohfhdaiaaGreat.W
open Go Go.Mx
theorem zt8:zp8 ((zzD [c1,c2,c3] (zoa tab) 200).call 0 10 [] HY.empty)=true:=by kernel_rfl
theorem zq0(w:World):Calls Tryz.prog 10 #[] w λe w'=>e=.returned (.bool true)/\Go.RowKit.Below w.heap.size w w':=
 znA mixed (zg0 tab) ziL (λc hc=>by
  simp only[qav,qbC,qdB]at hc;rcases hc with rfl | rfl | rfl
  .exact k1
  .exact k2
  exact k3) zt8 w
end Go.Proofs.YtbjogdohfhdaiaaGreat.W

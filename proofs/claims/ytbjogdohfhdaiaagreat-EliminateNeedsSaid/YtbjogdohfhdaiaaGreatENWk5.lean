/-
 The chapter's examples hold: the kernel has run them, in pieces. Conditions: none.
-/
import Derived.Test.YtbjogdohfhdaiaaGreatENWc1
import Derived.Test.YtbjogdohfhdaiaaGreatENWc4
import Derived.Test.YtbjogdohfhdaiaaGreatENWc3
set_option linter.unusedSimpArgs false
set_option linter.unusedVariables false
set_option maxRecDepth 100000
namespace Go.Proofs.YtbjogdohfhdaiaaGreat.W
open Go Go.Mx
theorem zs6:zo9 ((zxI [c1,c2,c3] (znB tab) 200).call 0 10 [] HY.empty)=true:=by kernel_rfl
theorem zor(w:World):Calls Tryz.prog 10 #[] w λe w'=>e=.returned (.bool true)/\Go.RowKit.Below w.heap.size w w':=
 zlL mixed (zf1 tab) zhW (λc hc=>by
  simp only[qax,qbR,or_false]at hc;rcases hc with rfl | rfl | rfl
  .exact k1
  .exact k2
  exact k3) zs6 w
end Go.Proofs.YtbjogdohfhdaiaaGreat.W

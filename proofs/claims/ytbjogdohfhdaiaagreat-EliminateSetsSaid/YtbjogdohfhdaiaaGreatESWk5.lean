/-
 The chapter's examples hold: the kernel has run them, in pieces. Conditions: none.
-/
import Derived.Test.YtbjogdohfhdaiaaGreatESWc1
import Derived.Test.YtbjogdohfhdaiaaGreatESWc2
import Derived.Test.YtbjogdohfhdaiaaGreatESWc3
set_option linter.unusedSimpArgs false
set_option linter.unusedVariables false
set_option maxRecDepth 100000
namespace Go.Proofs.YtbjogdohfhdaiaaGreat.W
open Go Go.Mx
theorem ztv:znu ((zvj [c1,c2,c3] (zmJ tab) 200).call 0 10 [] HY.empty)=true:=by kernel_rfl
theorem znT(w:World):Calls Tryz.prog 10 #[] w fun e w'=>e=.returned (.bool true)∧Go.RowKit.Below w.heap.size w w':=
 zkU mixed (zfg tab) zgQ (fun c hc=>by
  simp only[qaz,qbQ,or_false]at hc;rcases hc with rfl | rfl | rfl
  ·exact k1
  ·exact k2
  exact k3) ztv w
end Go.Proofs.YtbjogdohfhdaiaaGreat.W

/-
 The chapter's examples hold: the kernel has run them, in pieces. Conditions: none.
-/
import Derived.Test.YtbjogdohfhdaiaaGreatErWc0
import Derived.Test.YtbjogdohfhdaiaaGreatErWc4
import Derived.Test.YtbjogdohfhdaiaaGreatErWc3
set_option linter.unusedSimpArgs false
set_option linter.unusedVariables false
set_option maxRecDepth 100000
namespace Go.Proofs.YtbjogdohfhdaiaaGreat.W
open Go Go.Mx
theorem zvQ:zql ((zAU [c1,c2,c3] (zoL tab) 200).call 0 10 [] HY.empty)=true:=by kernel_rfl
theorem zrb(w:World):Calls Tryz.prog 10 #[] w λe w'=>e=.returned (.bool true)/\Go.RowKit.Below w.heap.size w w':=
 zn0 mixed (zhe tab) zja (λc hc=>by
  simp only[qav,qbC,qdC]at hc;rcases hc with rfl | rfl | rfl
  .exact k1
  .exact k2
  exact k3) zvQ w
end Go.Proofs.YtbjogdohfhdaiaaGreat.W

/-
 A call at a known memory: the kernel has run it. Conditions: none.
-/
import Derived.Test.YtbjogdohfhdaiaaGreatEcWc0
set_option linter.unusedSimpArgs false
set_option linter.unusedVariables false
set_option maxRecDepth 100000
namespace Go.Proofs.YtbjogdohfhdaiaaGreat.W
open Go Go.Mx
theorem r1:zs2 (zti [] (zoa tab) 200 c1.f c1.args c1.h0) c1.v c1.h1=true:=by kernel_rfl
theorem k1:zn8 Tryz.prog c1:=zgV mixed (zg0 tab) ziL (λc hc=>absurd hc qbC) (by kernel_rfl) r1
end Go.Proofs.YtbjogdohfhdaiaaGreat.W

/-
 A call at a known memory: the kernel has run it. Conditions: none.
-/
import Derived.Test.YtbjogdohfhdaiaaGreatEcWc0
set_option linter.unusedSimpArgs false
set_option linter.unusedVariables false
set_option maxRecDepth 100000
namespace Go.Proofs.YtbjogdohfhdaiaaGreat.W
open Go Go.Mx
theorem r3:zs2 (zti [] (zoa tab) 200 c3.f c3.args c3.h0) c3.v c3.h1=true:=by kernel_rfl
theorem k3:zn8 Tryz.prog c3:=zgV mixed (zg0 tab) ziL (λc hc=>absurd hc qbC) (by kernel_rfl) r3
end Go.Proofs.YtbjogdohfhdaiaaGreat.W

/-
 A call at a known memory: the kernel has run it. Conditions: none.
-/
import Derived.Test.YtbjogdohfhdaiaaGreatErWc0
set_option linter.unusedSimpArgs false
set_option linter.unusedVariables false
set_option maxRecDepth 100000
namespace Go.Proofs.YtbjogdohfhdaiaaGreat.W
open Go Go.Mx
theorem r3:zub (ztQ [] (zoL tab) 200 c3.f c3.args c3.h0) c3.v c3.h1=true:=by kernel_rfl
theorem k3:zoU Tryz.prog c3:=zg1 mixed (zhe tab) zja (λc hc=>absurd hc qbC) (by kernel_rfl) r3
end Go.Proofs.YtbjogdohfhdaiaaGreat.W

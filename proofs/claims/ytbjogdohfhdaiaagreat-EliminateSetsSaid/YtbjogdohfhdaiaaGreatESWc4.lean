/-
 A call at a known memory: the kernel has run it. Conditions: none.
-/
import Derived.Test.YtbjogdohfhdaiaaGreatESWc0
set_option linter.unusedSimpArgs false
set_option linter.unusedVariables false
set_option maxRecDepth 100000
namespace Go.Proofs.YtbjogdohfhdaiaaGreat.W
open Go Go.Mx
theorem r4:zqg (zqn [] (zmJ tab) 200 c4.f c4.args c4.h0) c4.v c4.h1=true:=by kernel_rfl
theorem k4:zlR Tryz.prog c4:=zfr mixed (zfg tab) zgQ (fun c hc=>absurd hc qbQ) (by kernel_rfl) r4
end Go.Proofs.YtbjogdohfhdaiaaGreat.W

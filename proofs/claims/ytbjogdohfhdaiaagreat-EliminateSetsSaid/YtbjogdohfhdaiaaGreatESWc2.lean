/-
 A call at a known memory: the kernel has run it. Conditions: none.
-/
import Derived.Test.YtbjogdohfhdaiaaGreatESWc4
set_option linter.unusedSimpArgs false
set_option linter.unusedVariables false
set_option maxRecDepth 100000
namespace Go.Proofs.YtbjogdohfhdaiaaGreat.W
open Go Go.Mx
theorem r2:zqg (zqn [c4] (zmJ tab) 200 c2.f c2.args c2.h0) c2.v c2.h1=true:=by kernel_rfl
theorem k2:zlR Tryz.prog c2:=zfr mixed (zfg tab) zgQ (fun c hc=>by
 simp only[qaz,qbQ,or_false]at hc;rcases hc with rfl
 exact k4) (by kernel_rfl) r2
end Go.Proofs.YtbjogdohfhdaiaaGreat.W

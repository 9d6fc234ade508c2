/-
 A call at a known memory: the kernel has run it. Conditions: none.
-/
import Derived.Test.YtbjogdohfhdaiaaGreatENWc0
set_option linter.unusedSimpArgs false
set_option linter.unusedVariables false
set_option maxRecDepth 100000
namespace Go.Proofs.YtbjogdohfhdaiaaGreat.W
open Go Go.Mx
theorem r1:zrR (zrM [] (znB tab) 200 c1.f c1.args c1.h0) c1.v c1.h1=true:=by kernel_rfl
theorem k1:zn7 Tryz.prog c1:=zfZ mixed (zf1 tab) zhW (λc hc=>absurd hc qbR) (by kernel_rfl) r1
end Go.Proofs.YtbjogdohfhdaiaaGreat.W

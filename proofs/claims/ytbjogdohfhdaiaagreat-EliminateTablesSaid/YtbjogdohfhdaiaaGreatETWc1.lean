/-
 A call at a known memory: the kernel has run it. Conditions: none.
-/
import Derived.Test.YtbjogdohfhdaiaaGreatETWc0
set_option linter.unusedSimpArgs false
set_option linter.unusedVariables false
set_option maxRecDepth 100000
namespace Go.Proofs.YtbjogdohfhdaiaaGreat.W
open Go Go.Mx
theorem r1:zsc (zr2 [] (znJ tab) 200 c1.f c1.args c1.h0) c1.v c1.h1=true:=by kernel_rfl
theorem k1:zoc Tryz.prog c1:=zgB mixed (zgx tab) ziq (λc hc=>absurd hc qbO) (by kernel_rfl) r1
end Go.Proofs.YtbjogdohfhdaiaaGreat.W

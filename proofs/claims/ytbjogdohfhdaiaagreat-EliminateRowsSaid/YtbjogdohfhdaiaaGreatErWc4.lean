/-
 A call at a known memory: the kernel has run it. Conditions: none.
-/
import Derived.Test.YtbjogdohfhdaiaaGreatErWc0
set_option linter.unusedSimpArgs false
set_option linter.unusedVariables false
set_option maxRecDepth 100000
namespace Go.Proofs.YtbjogdohfhdaiaaGreat.W
open Go Go.Mx
theorem r4:zub (ztQ [] (zoL tab) 200 c4.f c4.args c4.h0) c4.v c4.h1=true:=by kernel_rfl
theorem k4:zoU Tryz.prog c4:=zg1 mixed (zhe tab) zja (λc hc=>absurd hc qbC) (by kernel_rfl) r4
end Go.Proofs.YtbjogdohfhdaiaaGreat.W
set_option maxRecDepth 100000
namespace Go.Proofs.YtbjogdohfhdaiaaGreat.W
open Go Go.Mx
theorem r2:zub (ztQ [c4] (zoL tab) 200 c2.f c2.args c2.h0) c2.v c2.h1=true:=by kernel_rfl
theorem k2:zoU Tryz.prog c2:=zg1 mixed (zhe tab) zja (λc hc=>by
 simp only[qav,qbC,qdC]at hc;rcases hc with rfl
 exact k4) (by kernel_rfl) r2
end Go.Proofs.YtbjogdohfhdaiaaGreat.W

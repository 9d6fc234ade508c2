/-
  The chapter's examples of layer 5 hold: the kernel has run them. Conditions: none.
-/
import Derived.Test.YtobhjbbinnbdaaaNnTabW
import Derived.Test.YtobhjbbinnbdaaaNnMx22
namespace Go.Proofs.Ytobhjbbinnbdaaa.W
open Go Go.Mx
set_option maxRecDepth 100000
theorem mixed : Try.prog.follows .mixedOrders = true := by kernel_rfl
theorem znp : zkR ((Mx.zst noD (zjG tab) 60).call 0 37 [] HY.empty) = true := by kernel_rfl
theorem zka (w : World) : Calls Try.prog 37 #[] w fun e w' => e = .returned (.bool true) ∧ Go.RowKit.Below w.heap.size w w' :=
  ziD mixed zuu (zud _) znp w
end Go.Proofs.Ytobhjbbinnbdaaa.W

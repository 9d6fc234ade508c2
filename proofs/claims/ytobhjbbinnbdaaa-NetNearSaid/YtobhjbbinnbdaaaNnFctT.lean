/-
  Facts of what NetNear reaches. Conditions: none.
-/
import Derived.Test.YtobhjbbinnbdaaaNnFct
namespace Go.Proofs.Ytobhjbbinnbdaaa
open Go.ChangeShapes Go.WideShapes Go.ChangeAt Go.RowKit
set_option maxRecDepth 100000
theorem zl3 : (Rows.netNearRow.inPlace == Try.pinned.checked.prog.inPlace 9) = true := by kernel_rfl
theorem zsQ : (Rows.netNearRow.unfollowed == Try.pinned.checked.prog.unfollowed 9) = true := by kernel_rfl
theorem zto : (Rows.netNearRow.recurses == Try.pinned.checked.prog.recurses 9) = true := by kernel_rfl
theorem zqv : (Rows.netNearRow.named == Try.pinned.checked.prog.varsNamed 9) = true := by kernel_rfl
theorem zrF : joinedFacts Try.pinned.checked.prog 9 Try.f9 Rows.netNearSpec Rows.netNearRow = true := by
  unfold joinedFacts
  rw [zqV, zug, zsi, zsf, ztn, zl3, zsQ, zto, zqv, zrL, zr6, show (Rows.netNearRow.lifted == Try.pinned.checked.prog.liftsFinal) = true from ztH, show (Try.pinned.checked.prog.make == some Rows.netNearRow.make) = true from zub]
  kernel_rfl
theorem zve : Try.pinned.checked.prog.funcNamed Rows.netNearRow.func = some 9 := by kernel_rfl
theorem zva : Try.f9.isInstance Try.pinned.checked.prog Rows.netNearRow.origin Rows.netNearRow.targs := of_decide_eq_true (by kernel_rfl)
end Go.Proofs.Ytobhjbbinnbdaaa

/-
  Facts of what NetKnown reaches. Conditions: none.
-/
import Derived.Test.YtobhjbbinnbdaaaFct
namespace Go.Proofs.Ytobhjbbinnbdaaa
open Go.ChangeShapes Go.WideShapes Go.ChangeAt Go.RowKit
set_option linter.unusedSimpArgs false
set_option linter.unusedVariables false
set_option maxRecDepth 100000
theorem p_inPlace12 : (Rows.netKnownRow.inPlace == Try.pinned.checked.prog.inPlace 12) = true := by kernel_rfl
theorem p_unf12 : (Rows.netKnownRow.unfollowed == Try.pinned.checked.prog.unfollowed 12) = true := by kernel_rfl
theorem p_rec12 : (Rows.netKnownRow.recurses == Try.pinned.checked.prog.recurses 12) = true := by kernel_rfl
theorem p_named12 : (Rows.netKnownRow.named == Try.pinned.checked.prog.varsNamed 12) = true := by kernel_rfl
theorem closed12 : joinedFacts Try.pinned.checked.prog 12 Try.f12 Rows.netKnownSpec Rows.netKnownRow = true := by
  unfold joinedFacts
  rw [p_laid, p_maps, p_stops, p_knobs, p_keys, p_inPlace12, p_unf12, p_rec12, p_named12, p_heard, p_enter, p_lift, p_make]
  kernel_rfl
theorem name12 : Try.pinned.checked.prog.funcNamed Rows.netKnownRow.func = some 12 := by kernel_rfl
theorem inst12 : Try.f12.isInstance Try.pinned.checked.prog Rows.netKnownRow.origin Rows.netKnownRow.targs := of_decide_eq_true (by kernel_rfl)
end Go.Proofs.Ytobhjbbinnbdaaa

/-
  Facts of what NetStands reaches. Conditions: none.
-/
import Derived.Test.YtobhjbbinnbdaaaNsFct
namespace Go.Proofs.Ytobhjbbinnbdaaa
open Go.ChangeShapes Go.WideShapes Go.ChangeAt Go.RowKit
set_option linter.unusedSimpArgs false
set_option linter.unusedVariables false
set_option maxRecDepth 100000
theorem p_inPlace8 : (Rows.netStandsRow.inPlace == Try.pinned.checked.prog.inPlace 8) = true := by kernel_rfl
theorem p_unf8 : (Rows.netStandsRow.unfollowed == Try.pinned.checked.prog.unfollowed 8) = true := by kernel_rfl
theorem p_rec8 : (Rows.netStandsRow.recurses == Try.pinned.checked.prog.recurses 8) = true := by kernel_rfl
theorem p_named8 : (Rows.netStandsRow.named == Try.pinned.checked.prog.varsNamed 8) = true := by kernel_rfl
theorem closed8 : joinedFacts Try.pinned.checked.prog 8 Try.f8 Rows.netStandsSpec Rows.netStandsRow = true := by
  unfold joinedFacts
  rw [p_laid, p_maps, p_stops, p_knobs, p_keys, p_inPlace8, p_unf8, p_rec8, p_named8, p_heard, p_enter, show (Rows.netStandsRow.lifted == Try.pinned.checked.prog.liftsFinal) = true from p_lift, show (Try.pinned.checked.prog.make == some Rows.netStandsRow.make) = true from p_make]
  kernel_rfl
theorem name8 : Try.pinned.checked.prog.funcNamed Rows.netStandsRow.func = some 8 := by kernel_rfl
theorem inst8 : Try.f8.isInstance Try.pinned.checked.prog Rows.netStandsRow.origin Rows.netStandsRow.targs := of_decide_eq_true (by kernel_rfl)
end Go.Proofs.Ytobhjbbinnbdaaa

/-
 Facts of what CircuitChecks reaches. Conditions: none.
-/
import Derived.Test.YtbjogdohfhdaiaaCkFct
set_option linter.unusedSimpArgs false
set_option linter.unusedVariables false
set_option maxRecDepth 100000
namespace Go.Proofs.Ytbjogdohfhdaiaa
open Go.ChangeShapes Go.WideShapes Go.ChangeAt Go.RowKit
theorem zmT:(Rows.circuitChecksRow.inPlace == Try.pinned.checked.prog.inPlace 3)=true:=by kernel_rfl
theorem zuk:(Rows.circuitChecksRow.unfollowed == Try.pinned.checked.prog.unfollowed 3)=true:=by kernel_rfl
theorem ztK:(Rows.circuitChecksRow.recurses == Try.pinned.checked.prog.recurses 3)=true:=by kernel_rfl
theorem zrl:(Rows.circuitChecksRow.named == Try.pinned.checked.prog.varsNamed 3)=true:=by kernel_rfl
theorem zsF:joinedFacts Try.pinned.checked.prog 3 Try.f3 Rows.circuitChecksSpec Rows.circuitChecksRow=true:=by
 unfold joinedFacts;rw[zrT,ztU,ztg,zsX,zux,zmT,zuk,ztK,zrl,ztf,zs2,show(Rows.circuitChecksRow.lifted == Try.pinned.checked.prog.liftsFinal)=true from zu8,show(Try.pinned.checked.prog.make == some Rows.circuitChecksRow.make)=true from zue]
 kernel_rfl
theorem zwh:Try.pinned.checked.prog.funcNamed Rows.circuitChecksRow.func=some 3:=by kernel_rfl
theorem zvR:Try.f3.isInstance Try.pinned.checked.prog Rows.circuitChecksRow.origin Rows.circuitChecksRow.targs:=qcM (by kernel_rfl)
end Go.Proofs.Ytbjogdohfhdaiaa

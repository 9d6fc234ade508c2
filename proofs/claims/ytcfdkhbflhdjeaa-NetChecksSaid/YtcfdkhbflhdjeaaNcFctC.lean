/-
 Facts of what NetChecks reaches. Conditions: none.
-/
import Derived.Test.YtcfdkhbflhdjeaaNcFct
set_option linter.unusedSimpArgs false
set_option linter.unusedVariables false
set_option maxRecDepth 100000
namespace Go.Proofs.Ytcfdkhbflhdjeaa
open Go.ChangeShapes Go.WideShapes Go.ChangeAt Go.RowKit
theorem znX:(Rows.netChecksRow.inPlace == Try.pinned.checked.prog.inPlace 4)=true:=by kernel_rfl
theorem zuc:(Rows.netChecksRow.unfollowed == Try.pinned.checked.prog.unfollowed 4)=true:=by kernel_rfl
theorem zu5:(Rows.netChecksRow.recurses == Try.pinned.checked.prog.recurses 4)=true:=by kernel_rfl
theorem zr1:(Rows.netChecksRow.named == Try.pinned.checked.prog.varsNamed 4)=true:=by kernel_rfl
theorem zts:joinedFacts Try.pinned.checked.prog 4 Try.f4 Rows.netChecksSpec Rows.netChecksRow=true:=by
 unfold joinedFacts;rw[zsw,zvx,zs6,zsW,zve,znX,zuc,zu5,zr1,zsT,ztN,show(Rows.netChecksRow.lifted == Try.pinned.checked.prog.liftsFinal)=true from zuf,show(Try.pinned.checked.prog.make == some Rows.netChecksRow.make)=true from zuN]
 kernel_rfl
theorem zwI:Try.pinned.checked.prog.funcNamed Rows.netChecksRow.func=some 4:=by kernel_rfl
theorem zwi:Try.f4.isInstance Try.pinned.checked.prog Rows.netChecksRow.origin Rows.netChecksRow.targs:=of_decide_eq_true (by kernel_rfl)
end Go.Proofs.Ytcfdkhbflhdjeaa

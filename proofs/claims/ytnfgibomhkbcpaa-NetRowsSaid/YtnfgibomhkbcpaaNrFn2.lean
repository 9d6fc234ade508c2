/-
 Facts of what NetRows reaches. Conditions: none.
-/
import Derived.Test.YtnfgibomhkbcpaaNrFct
set_option linter.unusedSimpArgs false
set_option linter.unusedVariables false
set_option maxRecDepth 100000
namespace Go.Proofs.Ytnfgibomhkbcpaa
open Go.ChangeShapes Go.WideShapes Go.ChangeAt Go.RowKit
theorem zpu:(Rows.netRowsRow.inPlace == Try.pinned.checked.prog.inPlace 12)=true:=by kernel_rfl
theorem zx7:(Rows.netRowsRow.unfollowed == Try.pinned.checked.prog.unfollowed 12)=true:=by kernel_rfl
theorem zxV:(Rows.netRowsRow.recurses == Try.pinned.checked.prog.recurses 12)=true:=by kernel_rfl
theorem zsW:(Rows.netRowsRow.named == Try.pinned.checked.prog.varsNamed 12)=true:=by kernel_rfl
theorem zwj:joinedFacts Try.pinned.checked.prog 12 Try.f12 Rows.netRowsSpec Rows.netRowsRow=true:=by
 unfold joinedFacts;rw[zuj,zxU,zv6,zvN,zyg,zpu,zx7,zxV,zsW,zvZ,zvQ,show(Rows.netRowsRow.lifted == Try.pinned.checked.prog.liftsFinal)=true from zyb,show(Try.pinned.checked.prog.make == some Rows.netRowsRow.make)=true from zx0]
 kernel_rfl
theorem zyJ:Try.pinned.checked.prog.funcNamed Rows.netRowsRow.func=some 12:=by kernel_rfl
theorem zy3:Try.f12.isInstance Try.pinned.checked.prog Rows.netRowsRow.origin Rows.netRowsRow.targs:=of_decide_eq_true (by kernel_rfl)
end Go.Proofs.Ytnfgibomhkbcpaa

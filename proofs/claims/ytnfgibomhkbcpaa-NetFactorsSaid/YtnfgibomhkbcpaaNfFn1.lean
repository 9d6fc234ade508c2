/-
 Facts of what NetFactors reaches. Conditions: none.
-/
import Derived.Test.YtnfgibomhkbcpaaNfFct
set_option linter.unusedSimpArgs false
set_option linter.unusedVariables false
set_option maxRecDepth 100000
namespace Go.Proofs.Ytnfgibomhkbcpaa
open Go.ChangeShapes Go.WideShapes Go.ChangeAt Go.RowKit
theorem zpz:(Rows.netFactorsRow.inPlace == Try.pinned.checked.prog.inPlace 3)=true:=by kernel_rfl
theorem zx0:(Rows.netFactorsRow.unfollowed == Try.pinned.checked.prog.unfollowed 3)=true:=by kernel_rfl
theorem zwq:(Rows.netFactorsRow.recurses == Try.pinned.checked.prog.recurses 3)=true:=by kernel_rfl
theorem zsT:(Rows.netFactorsRow.named == Try.pinned.checked.prog.varsNamed 3)=true:=by kernel_rfl
theorem zvf:joinedFacts Try.pinned.checked.prog 3 Try.f3 Rows.netFactorsSpec Rows.netFactorsRow=true:=by
 unfold joinedFacts;rw[zuw,zwu,zvE,zuL,zwP,zpz,zx0,zwq,zsT,zuK,zuN,show(Rows.netFactorsRow.lifted == Try.pinned.checked.prog.liftsFinal)=true from zx2,show(Try.pinned.checked.prog.make == some Rows.netFactorsRow.make)=true from zw2]
 kernel_rfl
theorem zy7:Try.pinned.checked.prog.funcNamed Rows.netFactorsRow.func=some 3:=by kernel_rfl
theorem zyP:Try.f3.isInstance Try.pinned.checked.prog Rows.netFactorsRow.origin Rows.netFactorsRow.targs:=of_decide_eq_true (by kernel_rfl)
end Go.Proofs.Ytnfgibomhkbcpaa

/-
 Facts of what FactorRemoves reaches. Conditions: none.
-/
import Derived.Test.YtnfgibomhkbcpaaFrFct
set_option linter.unusedSimpArgs false
set_option linter.unusedVariables false
set_option maxRecDepth 100000
namespace Go.Proofs.Ytnfgibomhkbcpaa
open Go.ChangeShapes Go.WideShapes Go.ChangeAt Go.RowKit
theorem zn3:(Rows.factorRemovesRow.inPlace == Try.pinned.checked.prog.inPlace 5)=true:=by kernel_rfl
theorem ztI:(Rows.factorRemovesRow.unfollowed == Try.pinned.checked.prog.unfollowed 5)=true:=by kernel_rfl
theorem ztB:(Rows.factorRemovesRow.recurses == Try.pinned.checked.prog.recurses 5)=true:=by kernel_rfl
theorem zqR:(Rows.factorRemovesRow.named == Try.pinned.checked.prog.varsNamed 5)=true:=by kernel_rfl
theorem zr5:joinedFacts Try.pinned.checked.prog 5 Try.f5 Rows.factorRemovesSpec Rows.factorRemovesRow=true:=by
 unfold joinedFacts;rw[zrS,zuo,zta,zsY,zui,zn3,ztI,ztB,zqR,zst,zs2,show(Rows.factorRemovesRow.lifted == Try.pinned.checked.prog.liftsFinal)=true from zt6,show(Try.pinned.checked.prog.make == some Rows.factorRemovesRow.make)=true from zt5]
 kernel_rfl
theorem zu9:Try.pinned.checked.prog.funcNamed Rows.factorRemovesRow.func=some 5:=by kernel_rfl
theorem zuL:Try.f5.isInstance Try.pinned.checked.prog Rows.factorRemovesRow.origin Rows.factorRemovesRow.targs:=of_decide_eq_true (by kernel_rfl)
end Go.Proofs.Ytnfgibomhkbcpaa

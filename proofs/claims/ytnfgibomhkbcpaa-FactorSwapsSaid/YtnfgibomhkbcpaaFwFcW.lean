/-
 Facts of what FactorSwaps reaches. Conditions: none.
-/
import Derived.Test.YtnfgibomhkbcpaaFwFct
set_option linter.unusedSimpArgs false
set_option linter.unusedVariables false
set_option maxRecDepth 100000
namespace Go.Proofs.Ytnfgibomhkbcpaa
open Go.ChangeShapes Go.WideShapes Go.ChangeAt Go.RowKit
theorem zmr:(Rows.factorSwapsRow.inPlace == Try.pinned.checked.prog.inPlace 8)=true:=by kernel_rfl
theorem zr5:(Rows.factorSwapsRow.unfollowed == Try.pinned.checked.prog.unfollowed 8)=true:=by kernel_rfl
theorem zrV:(Rows.factorSwapsRow.recurses == Try.pinned.checked.prog.recurses 8)=true:=by kernel_rfl
theorem zpp:(Rows.factorSwapsRow.named == Try.pinned.checked.prog.varsNamed 8)=true:=by kernel_rfl
theorem zqR:joinedFacts Try.pinned.checked.prog 8 Try.f8 Rows.factorSwapsSpec Rows.factorSwapsRow=true:=by
 unfold joinedFacts;rw[zqh,zrS,zq3,zrn,zsg,zmr,zr5,zrV,zpp,zrd,zqA,show(Rows.factorSwapsRow.lifted == Try.pinned.checked.prog.liftsFinal)=true from zrY,show(Try.pinned.checked.prog.make == some Rows.factorSwapsRow.make)=true from zss]
 kernel_rfl
theorem ztb:Try.pinned.checked.prog.funcNamed Rows.factorSwapsRow.func=some 8:=by kernel_rfl
theorem ztm:Try.f8.isInstance Try.pinned.checked.prog Rows.factorSwapsRow.origin Rows.factorSwapsRow.targs:=of_decide_eq_true (by kernel_rfl)
end Go.Proofs.Ytnfgibomhkbcpaa

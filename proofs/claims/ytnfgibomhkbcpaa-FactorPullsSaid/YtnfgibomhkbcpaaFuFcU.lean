/-
 Facts of what FactorPulls reaches. Conditions: none.
-/
import Derived.Test.YtnfgibomhkbcpaaFuFct
set_option linter.unusedSimpArgs false
set_option linter.unusedVariables false
set_option maxRecDepth 100000
namespace Go.Proofs.Ytnfgibomhkbcpaa
open Go.ChangeShapes Go.WideShapes Go.ChangeAt Go.RowKit
theorem znG:(Rows.factorPullsRow.inPlace == Try.pinned.checked.prog.inPlace 9)=true:=by kernel_rfl
theorem zsX:(Rows.factorPullsRow.unfollowed == Try.pinned.checked.prog.unfollowed 9)=true:=by kernel_rfl
theorem zs9:(Rows.factorPullsRow.recurses == Try.pinned.checked.prog.recurses 9)=true:=by kernel_rfl
theorem zqG:(Rows.factorPullsRow.named == Try.pinned.checked.prog.varsNamed 9)=true:=by kernel_rfl
theorem zrI:joinedFacts Try.pinned.checked.prog 9 Try.f9 Rows.factorPullsSpec Rows.factorPullsRow=true:=by
 unfold joinedFacts;rw[zq4,ztn,zrD,zsu,ztb,znG,zsX,zs9,zqG,zrK,zss,show(Rows.factorPullsRow.lifted == Try.pinned.checked.prog.liftsFinal)=true from ztk,show(Try.pinned.checked.prog.make == some Rows.factorPullsRow.make)=true from ztI]
 kernel_rfl
theorem zt6:Try.pinned.checked.prog.funcNamed Rows.factorPullsRow.func=some 9:=by kernel_rfl
theorem zug:Try.f9.isInstance Try.pinned.checked.prog Rows.factorPullsRow.origin Rows.factorPullsRow.targs:=of_decide_eq_true (by kernel_rfl)
end Go.Proofs.Ytnfgibomhkbcpaa

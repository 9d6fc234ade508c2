/-
 Facts of what FactorKeeps reaches. Conditions: none.
-/
import Derived.Test.YtnfgibomhkbcpaaFkFct
set_option linter.unusedSimpArgs false
set_option linter.unusedVariables false
set_option maxRecDepth 100000
namespace Go.Proofs.Ytnfgibomhkbcpaa
open Go.ChangeShapes Go.WideShapes Go.ChangeAt Go.RowKit
theorem znH:(Rows.factorKeepsRow.inPlace == Try.pinned.checked.prog.inPlace 6)=true:=by kernel_rfl
theorem ztv:(Rows.factorKeepsRow.unfollowed == Try.pinned.checked.prog.unfollowed 6)=true:=by kernel_rfl
theorem zsT:(Rows.factorKeepsRow.recurses == Try.pinned.checked.prog.recurses 6)=true:=by kernel_rfl
theorem zqc:(Rows.factorKeepsRow.named == Try.pinned.checked.prog.varsNamed 6)=true:=by kernel_rfl
theorem zsf:joinedFacts Try.pinned.checked.prog 6 Try.f6 Rows.factorKeepsSpec Rows.factorKeepsRow=true:=by
 unfold joinedFacts;rw[zq9,zsQ,zsd,zrM,ztb,znH,ztv,zsT,zqc,zrE,zrn,show(Rows.factorKeepsRow.lifted == Try.pinned.checked.prog.liftsFinal)=true from zs1,show(Try.pinned.checked.prog.make == some Rows.factorKeepsRow.make)=true from ztn]
 kernel_rfl
theorem zum:Try.pinned.checked.prog.funcNamed Rows.factorKeepsRow.func=some 6:=by kernel_rfl
theorem zug:Try.f6.isInstance Try.pinned.checked.prog Rows.factorKeepsRow.origin Rows.factorKeepsRow.targs:=of_decide_eq_true (by kernel_rfl)
end Go.Proofs.Ytnfgibomhkbcpaa

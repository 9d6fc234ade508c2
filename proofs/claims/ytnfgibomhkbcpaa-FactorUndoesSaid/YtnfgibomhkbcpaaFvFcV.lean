/-
 Facts of what FactorUndoes reaches. Conditions: none.
-/
import Derived.Test.YtnfgibomhkbcpaaFvFct
set_option linter.unusedSimpArgs false
set_option linter.unusedVariables false
set_option maxRecDepth 100000
namespace Go.Proofs.Ytnfgibomhkbcpaa
open Go.ChangeShapes Go.WideShapes Go.ChangeAt Go.RowKit
theorem zmk:(Rows.factorUndoesRow.inPlace == Try.pinned.checked.prog.inPlace 10)=true:=by kernel_rfl
theorem zsL:(Rows.factorUndoesRow.unfollowed == Try.pinned.checked.prog.unfollowed 10)=true:=by kernel_rfl
theorem zrT:(Rows.factorUndoesRow.recurses == Try.pinned.checked.prog.recurses 10)=true:=by kernel_rfl
theorem zpc:(Rows.factorUndoesRow.named == Try.pinned.checked.prog.varsNamed 10)=true:=by kernel_rfl
theorem zq6:joinedFacts Try.pinned.checked.prog 10 Try.f10 Rows.factorUndoesSpec Rows.factorUndoesRow=true:=by
 unfold joinedFacts;rw[zpU,zr8,zqv,zqZ,zsE,zmk,zsL,zrT,zpc,zqw,zrm,show(Rows.factorUndoesRow.lifted == Try.pinned.checked.prog.liftsFinal)=true from zr5,show(Try.pinned.checked.prog.make == some Rows.factorUndoesRow.make)=true from zsd]
 kernel_rfl
theorem zs6:Try.pinned.checked.prog.funcNamed Rows.factorUndoesRow.func=some 10:=by kernel_rfl
theorem zth:Try.f10.isInstance Try.pinned.checked.prog Rows.factorUndoesRow.origin Rows.factorUndoesRow.targs:=of_decide_eq_true (by kernel_rfl)
end Go.Proofs.Ytnfgibomhkbcpaa

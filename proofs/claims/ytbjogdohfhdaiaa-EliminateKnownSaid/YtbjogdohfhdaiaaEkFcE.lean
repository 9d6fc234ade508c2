/-
 Facts of what EliminateKnown reaches. Conditions: none.
-/
import Derived.Test.YtbjogdohfhdaiaaEkFct
set_option linter.unusedSimpArgs false
set_option linter.unusedVariables false
set_option maxRecDepth 100000
namespace Go.Proofs.Ytbjogdohfhdaiaa
open Go.ChangeShapes Go.WideShapes Go.ChangeAt Go.RowKit
theorem znV:(Rows.eliminateKnownRow.inPlace == Try.pinned.checked.prog.inPlace 7)=true:=by kernel_rfl
theorem zsh:(Rows.eliminateKnownRow.unfollowed == Try.pinned.checked.prog.unfollowed 7)=true:=by kernel_rfl
theorem zs2:(Rows.eliminateKnownRow.recurses == Try.pinned.checked.prog.recurses 7)=true:=by kernel_rfl
theorem zqb:(Rows.eliminateKnownRow.named == Try.pinned.checked.prog.varsNamed 7)=true:=by kernel_rfl
theorem zrM:joinedFacts Try.pinned.checked.prog 7 Try.f7 Rows.eliminateKnownSpec Rows.eliminateKnownRow=true:=by
 unfold joinedFacts;rw[zqS,zsY,zrf,zrD,zsx,znV,zsh,zs2,zqb,zrv,zrq,show(Rows.eliminateKnownRow.lifted == Try.pinned.checked.prog.liftsFinal)=true from zsE,show(Try.pinned.checked.prog.make == some Rows.eliminateKnownRow.make)=true from zsL]
 kernel_rfl
theorem ztd:Try.pinned.checked.prog.funcNamed Rows.eliminateKnownRow.func=some 7:=by kernel_rfl
theorem ztA:Try.f7.isInstance Try.pinned.checked.prog Rows.eliminateKnownRow.origin Rows.eliminateKnownRow.targs:=of_decide_eq_true (by kernel_rfl)
end Go.Proofs.Ytbjogdohfhdaiaa

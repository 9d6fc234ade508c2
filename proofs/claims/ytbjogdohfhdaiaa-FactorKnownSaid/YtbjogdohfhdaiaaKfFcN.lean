/-
 Facts of what FactorKnown reaches. Conditions: none.
-/
import Derived.Test.YtbjogdohfhdaiaaKfFct
set_option linter.unusedSimpArgs false
set_option linter.unusedVariables false
set_option maxRecDepth 100000
namespace Go.Proofs.Ytbjogdohfhdaiaa
open Go.ChangeShapes Go.WideShapes Go.ChangeAt Go.RowKit
theorem zmf:(Rows.factorKnownRow.inPlace == Try.pinned.checked.prog.inPlace 6)=true:=by kernel_rfl
theorem zrB:(Rows.factorKnownRow.unfollowed == Try.pinned.checked.prog.unfollowed 6)=true:=by kernel_rfl
theorem zr4:(Rows.factorKnownRow.recurses == Try.pinned.checked.prog.recurses 6)=true:=by kernel_rfl
theorem zoU:(Rows.factorKnownRow.named == Try.pinned.checked.prog.varsNamed 6)=true:=by kernel_rfl
theorem zqD:joinedFacts Try.pinned.checked.prog 6 Try.f6 Rows.factorKnownSpec Rows.factorKnownRow=true:=by
 unfold joinedFacts;rw[zpJ,zrb,zqG,zpV,zr9,zmf,zrB,zr4,zoU,zp9,zpO,show(Rows.factorKnownRow.lifted == Try.pinned.checked.prog.liftsFinal)=true from zry,show(Try.pinned.checked.prog.make == some Rows.factorKnownRow.make)=true from zrW]
 kernel_rfl
theorem zsi:Try.pinned.checked.prog.funcNamed Rows.factorKnownRow.func=some 6:=by kernel_rfl
theorem zsn:Try.f6.isInstance Try.pinned.checked.prog Rows.factorKnownRow.origin Rows.factorKnownRow.targs:=of_decide_eq_true (by kernel_rfl)
end Go.Proofs.Ytbjogdohfhdaiaa

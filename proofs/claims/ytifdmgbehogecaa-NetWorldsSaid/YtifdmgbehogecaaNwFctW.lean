/-
 Facts of what NetWorlds reaches. Conditions: none.
-/
import Derived.Test.YtifdmgbehogecaaNwFct
set_option linter.unusedSimpArgs false
set_option linter.unusedVariables false
set_option maxRecDepth 100000
namespace Go.Proofs.Ytifdmgbehogecaa
open Go.ChangeShapes Go.WideShapes Go.ChangeAt Go.RowKit
theorem zoq:(Rows.netWorldsRow.inPlace == Try.pinned.checked.prog.inPlace 3)=true:=by kernel_rfl
theorem zwb:(Rows.netWorldsRow.unfollowed == Try.pinned.checked.prog.unfollowed 3)=true:=by kernel_rfl
theorem zvB:(Rows.netWorldsRow.recurses == Try.pinned.checked.prog.recurses 3)=true:=by kernel_rfl
theorem zrs:(Rows.netWorldsRow.named == Try.pinned.checked.prog.varsNamed 3)=true:=by kernel_rfl
theorem zui:joinedFacts Try.pinned.checked.prog 3 Try.f3 Rows.netWorldsSpec Rows.netWorldsRow=true:=by
 unfold joinedFacts;rw[zsJ,zve,zt7,zte,zvL,zoq,zwb,zvB,zrs,zum,ztl,show(Rows.netWorldsRow.lifted == Try.pinned.checked.prog.liftsFinal)=true from zv9,show(Try.pinned.checked.prog.make == some Rows.netWorldsRow.make)=true from zvt]
 kernel_rfl
theorem zwM:Try.pinned.checked.prog.funcNamed Rows.netWorldsRow.func=some 3:=by kernel_rfl
theorem zwZ:Try.f3.isInstance Try.pinned.checked.prog Rows.netWorldsRow.origin Rows.netWorldsRow.targs:=of_decide_eq_true (by kernel_rfl)
end Go.Proofs.Ytifdmgbehogecaa

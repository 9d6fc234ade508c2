/-
 Facts of what NetGraphs reaches. Conditions: none.
-/
import Derived.Test.YtifdmgbehogecaaNhFct
set_option linter.unusedSimpArgs false
set_option linter.unusedVariables false
set_option maxRecDepth 100000
namespace Go.Proofs.Ytifdmgbehogecaa
open Go.ChangeShapes Go.WideShapes Go.ChangeAt Go.RowKit
theorem znB:(Rows.netGraphsRow.inPlace == Try.pinned.checked.prog.inPlace 4)=true:=by kernel_rfl
theorem zvU:(Rows.netGraphsRow.unfollowed == Try.pinned.checked.prog.unfollowed 4)=true:=by kernel_rfl
theorem zvq:(Rows.netGraphsRow.recurses == Try.pinned.checked.prog.recurses 4)=true:=by kernel_rfl
theorem zrr:(Rows.netGraphsRow.named == Try.pinned.checked.prog.varsNamed 4)=true:=by kernel_rfl
theorem ztS:joinedFacts Try.pinned.checked.prog 4 Try.f4 Rows.netGraphsSpec Rows.netGraphsRow=true:=by
 unfold joinedFacts;rw[zsj,zuN,zty,ztK,zt7,znB,zvU,zvq,zrr,zsR,ztQ,show(Rows.netGraphsRow.lifted == Try.pinned.checked.prog.liftsFinal)=true from zu4,show(Try.pinned.checked.prog.make == some Rows.netGraphsRow.make)=true from zvO]
 kernel_rfl
theorem zwe:Try.pinned.checked.prog.funcNamed Rows.netGraphsRow.func=some 4:=by kernel_rfl
theorem zwa:Try.f4.isInstance Try.pinned.checked.prog Rows.netGraphsRow.origin Rows.netGraphsRow.targs:=of_decide_eq_true (by kernel_rfl)
end Go.Proofs.Ytifdmgbehogecaa

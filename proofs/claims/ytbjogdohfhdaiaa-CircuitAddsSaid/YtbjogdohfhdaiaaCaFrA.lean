/-
 Facts of what CircuitAdds reaches. Conditions: none.
-/
import Derived.Test.YtbjogdohfhdaiaaCaFct
set_option linter.unusedSimpArgs false
set_option linter.unusedVariables false
set_option maxRecDepth 100000
namespace Go.Proofs.Ytbjogdohfhdaiaa
open Go.ChangeShapes Go.WideShapes Go.ChangeAt Go.RowKit
theorem zmT:(Rows.circuitAddsRow.inPlace == Try.pinned.checked.prog.inPlace 4)=true:=by kernel_rfl
theorem zvC:(Rows.circuitAddsRow.unfollowed == Try.pinned.checked.prog.unfollowed 4)=true:=by kernel_rfl
theorem zv8:(Rows.circuitAddsRow.recurses == Try.pinned.checked.prog.recurses 4)=true:=by kernel_rfl
theorem zrS:(Rows.circuitAddsRow.named == Try.pinned.checked.prog.varsNamed 4)=true:=by kernel_rfl
theorem ztM:joinedFacts Try.pinned.checked.prog 4 Try.f4 Rows.circuitAddsSpec Rows.circuitAddsRow=true:=by
 unfold joinedFacts;rw[zsM,zu4,zua,ztm,zuO,zmT,zvC,zv8,zrS,zte,ztD,show(Rows.circuitAddsRow.lifted == Try.pinned.checked.prog.liftsFinal)=true from zvE,show(Try.pinned.checked.prog.make == some Rows.circuitAddsRow.make)=true from zvl]
 kernel_rfl
theorem zxq:Try.pinned.checked.prog.funcNamed Rows.circuitAddsRow.func=some 4:=by kernel_rfl
theorem zxf:Try.f4.isInstance Try.pinned.checked.prog Rows.circuitAddsRow.origin Rows.circuitAddsRow.targs:=qcZ (by kernel_rfl)
end Go.Proofs.Ytbjogdohfhdaiaa

/-
 Facts of what FactorRing reaches. Conditions: none.
-/
import Derived.Test.YtnfgibomhkbcpaaFgFct
set_option linter.unusedSimpArgs false
set_option linter.unusedVariables false
set_option maxRecDepth 100000
namespace Go.Proofs.Ytnfgibomhkbcpaa
open Go.ChangeShapes Go.WideShapes Go.ChangeAt Go.RowKit
theorem zmf:(Rows.factorRingRow.inPlace == Try.pinned.checked.prog.inPlace 7)=true:=by kernel_rfl
theorem zr5:(Rows.factorRingRow.unfollowed == Try.pinned.checked.prog.unfollowed 7)=true:=by kernel_rfl
theorem zrQ:(Rows.factorRingRow.recurses == Try.pinned.checked.prog.recurses 7)=true:=by kernel_rfl
theorem zpc:(Rows.factorRingRow.named == Try.pinned.checked.prog.varsNamed 7)=true:=by kernel_rfl
theorem zqE:joinedFacts Try.pinned.checked.prog 7 Try.f7 Rows.factorRingSpec Rows.factorRingRow=true:=by
 unfold joinedFacts;rw[zpZ,zr7,zq9,zqm,zsf,zmf,zr5,zrQ,zpc,zqq,zqo,show(Rows.factorRingRow.lifted == Try.pinned.checked.prog.liftsFinal)=true from zr3,show(Try.pinned.checked.prog.make == some Rows.factorRingRow.make)=true from zsl]
 kernel_rfl
theorem zs0:Try.pinned.checked.prog.funcNamed Rows.factorRingRow.func=some 7:=by kernel_rfl
theorem zsL:Try.f7.isInstance Try.pinned.checked.prog Rows.factorRingRow.origin Rows.factorRingRow.targs:=of_decide_eq_true (by kernel_rfl)
end Go.Proofs.Ytnfgibomhkbcpaa

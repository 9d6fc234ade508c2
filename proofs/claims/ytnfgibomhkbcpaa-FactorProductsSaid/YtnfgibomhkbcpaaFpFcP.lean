/-
 Facts of what FactorProducts reaches. Conditions: none.
-/
import Derived.Test.YtnfgibomhkbcpaaFpFct
set_option linter.unusedSimpArgs false
set_option linter.unusedVariables false
set_option maxRecDepth 100000
namespace Go.Proofs.Ytnfgibomhkbcpaa
open Go.ChangeShapes Go.WideShapes Go.ChangeAt Go.RowKit
theorem zn1:(Rows.factorProductsRow.inPlace == Try.pinned.checked.prog.inPlace 4)=true:=by kernel_rfl
theorem zt8:(Rows.factorProductsRow.unfollowed == Try.pinned.checked.prog.unfollowed 4)=true:=by kernel_rfl
theorem ztN:(Rows.factorProductsRow.recurses == Try.pinned.checked.prog.recurses 4)=true:=by kernel_rfl
theorem zqP:(Rows.factorProductsRow.named == Try.pinned.checked.prog.varsNamed 4)=true:=by kernel_rfl
theorem zsR:joinedFacts Try.pinned.checked.prog 4 Try.f4 Rows.factorProductsSpec Rows.factorProductsRow=true:=by
 unfold joinedFacts;rw[zrf,zuf,zrQ,zr7,ztU,zn1,zt8,ztN,zqP,zsB,zrR,show(Rows.factorProductsRow.lifted == Try.pinned.checked.prog.liftsFinal)=true from ztS,show(Try.pinned.checked.prog.make == some Rows.factorProductsRow.make)=true from ztW]
 kernel_rfl
theorem zuK:Try.pinned.checked.prog.funcNamed Rows.factorProductsRow.func=some 4:=by kernel_rfl
theorem zuw:Try.f4.isInstance Try.pinned.checked.prog Rows.factorProductsRow.origin Rows.factorProductsRow.targs:=of_decide_eq_true (by kernel_rfl)
end Go.Proofs.Ytnfgibomhkbcpaa

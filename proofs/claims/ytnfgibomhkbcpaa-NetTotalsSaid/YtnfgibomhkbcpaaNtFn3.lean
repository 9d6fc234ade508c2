/-
 Facts of what NetTotals reaches. Conditions: none.
-/
import Derived.Test.YtnfgibomhkbcpaaNtFct
set_option linter.unusedSimpArgs false
set_option linter.unusedVariables false
set_option maxRecDepth 100000
namespace Go.Proofs.Ytnfgibomhkbcpaa
open Go.ChangeShapes Go.WideShapes Go.ChangeAt Go.RowKit
theorem zqp:(Rows.netTotalsRow.inPlace == Try.pinned.checked.prog.inPlace 13)=true:=by kernel_rfl
theorem zyd:(Rows.netTotalsRow.unfollowed == Try.pinned.checked.prog.unfollowed 13)=true:=by kernel_rfl
theorem zzz:(Rows.netTotalsRow.recurses == Try.pinned.checked.prog.recurses 13)=true:=by kernel_rfl
theorem zuk:(Rows.netTotalsRow.named == Try.pinned.checked.prog.varsNamed 13)=true:=by kernel_rfl
theorem zxj:joinedFacts Try.pinned.checked.prog 13 Try.f13 Rows.netTotalsSpec Rows.netTotalsRow=true:=by
 unfold joinedFacts;rw[zvc,zx1,zwf,zv8,zy9,zqp,zyd,zzz,zuk,zxr,zv4,show(Rows.netTotalsRow.lifted == Try.pinned.checked.prog.liftsFinal)=true from zx2,show(Try.pinned.checked.prog.make == some Rows.netTotalsRow.make)=true from zyk]
 kernel_rfl
theorem zzY:Try.pinned.checked.prog.funcNamed Rows.netTotalsRow.func=some 13:=by kernel_rfl
theorem zzU:Try.f13.isInstance Try.pinned.checked.prog Rows.netTotalsRow.origin Rows.netTotalsRow.targs:=of_decide_eq_true (by kernel_rfl)
end Go.Proofs.Ytnfgibomhkbcpaa

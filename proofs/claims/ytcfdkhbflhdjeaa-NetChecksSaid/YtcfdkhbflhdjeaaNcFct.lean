/-
 Facts of the program as a whole that every claim asks for. Conditions: none.
-/
import Derived.Test.YtcfdkhbflhdjeaaRows
import Derived.ProofKit
import Derived.Test.YtcfdkhbflhdjeaaNcA
set_option linter.unusedSimpArgs false
set_option linter.unusedVariables false
set_option maxRecDepth 100000
namespace Go.Proofs.Ytcfdkhbflhdjeaa
open Go.ChangeShapes Go.WideShapes Go.ChangeAt Go.RowKit
theorem zsw:laidOutB Try.pinned.checked.prog=true:=by kernel_rfl
theorem zvx:mapsRowed Try.pinned.checked.prog=true:=by kernel_rfl
theorem zs6:Try.pinned.checked.prog.stops=[]:=by kernel_rfl
theorem zsW:Try.pinned.checked.prog.stopKnobs=[]:=by kernel_rfl
theorem zve:Try.pinned.checked.prog.plainKeys=true:=by kernel_rfl
theorem zsT:Try.pinned.checked.prog.stopsHeard=true:=by kernel_rfl
theorem ztR:(Try.pinned.checked.prog.mayEnter && (Rows.netFactorsRow.lifted == Try.pinned.checked.prog.liftsFinal) && (Try.pinned.checked.prog.make == some Rows.netFactorsRow.make))=true:=by kernel_rfl
theorem ztN:Try.pinned.checked.prog.mayEnter=true:=by
 have h:=ztR;simp only[qag]at h;exact h.1.1
theorem zuf:(Rows.netFactorsRow.lifted == Try.pinned.checked.prog.liftsFinal)=true:=by
 have h:=ztR;simp only[qag]at h;exact h.1.2
theorem zuN:(Try.pinned.checked.prog.make == some Rows.netFactorsRow.make)=true:=by
 have h:=ztR;simp only[qag]at h;exact h.2
end Go.Proofs.Ytcfdkhbflhdjeaa

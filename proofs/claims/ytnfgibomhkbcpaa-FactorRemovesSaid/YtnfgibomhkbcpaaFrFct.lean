/-
 Facts of the program as a whole that every claim asks for. Conditions: none.
-/
import Derived.Test.YtnfgibomhkbcpaaRows
import Derived.ProofKit
import Derived.Test.YtnfgibomhkbcpaaFrA
set_option linter.unusedSimpArgs false
set_option linter.unusedVariables false
set_option maxRecDepth 100000
namespace Go.Proofs.Ytnfgibomhkbcpaa
open Go.ChangeShapes Go.WideShapes Go.ChangeAt Go.RowKit
theorem zrS:laidOutB Try.pinned.checked.prog=true:=by kernel_rfl
theorem zuo:mapsRowed Try.pinned.checked.prog=true:=by kernel_rfl
theorem zta:Try.pinned.checked.prog.stops=[]:=by kernel_rfl
theorem zsY:Try.pinned.checked.prog.stopKnobs=[]:=by kernel_rfl
theorem zui:Try.pinned.checked.prog.plainKeys=true:=by kernel_rfl
theorem zst:Try.pinned.checked.prog.stopsHeard=true:=by kernel_rfl
theorem zss:(Try.pinned.checked.prog.mayEnter && (Rows.netFactorsRow.lifted == Try.pinned.checked.prog.liftsFinal) && (Try.pinned.checked.prog.make == some Rows.netFactorsRow.make))=true:=by kernel_rfl
theorem zs2:Try.pinned.checked.prog.mayEnter=true:=by
 have h:=zss;simp only[qag]at h;exact h.1.1
theorem zt6:(Rows.netFactorsRow.lifted == Try.pinned.checked.prog.liftsFinal)=true:=by
 have h:=zss;simp only[qag]at h;exact h.1.2
theorem zt5:(Try.pinned.checked.prog.make == some Rows.netFactorsRow.make)=true:=by
 have h:=zss;simp only[qag]at h;exact h.2
end Go.Proofs.Ytnfgibomhkbcpaa

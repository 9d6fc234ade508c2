/-
 Facts of the program as a whole that every claim asks for. Conditions: none.
-/
import Derived.Test.YtnfgibomhkbcpaaRows
import Derived.ProofKit
import Derived.Test.YtnfgibomhkbcpaaFvA
set_option linter.unusedSimpArgs false
set_option linter.unusedVariables false
set_option maxRecDepth 100000
namespace Go.Proofs.Ytnfgibomhkbcpaa
open Go.ChangeShapes Go.WideShapes Go.ChangeAt Go.RowKit
theorem zpU:laidOutB Try.pinned.checked.prog=true:=by kernel_rfl
theorem zr8:mapsRowed Try.pinned.checked.prog=true:=by kernel_rfl
theorem zqv:Try.pinned.checked.prog.stops=[]:=by kernel_rfl
theorem zqZ:Try.pinned.checked.prog.stopKnobs=[]:=by kernel_rfl
theorem zsE:Try.pinned.checked.prog.plainKeys=true:=by kernel_rfl
theorem zqw:Try.pinned.checked.prog.stopsHeard=true:=by kernel_rfl
theorem zqI:(Try.pinned.checked.prog.mayEnter && (Rows.netFactorsRow.lifted == Try.pinned.checked.prog.liftsFinal) && (Try.pinned.checked.prog.make == some Rows.netFactorsRow.make))=true:=by kernel_rfl
theorem zrm:Try.pinned.checked.prog.mayEnter=true:=by
 have h:=zqI;simp only[qag]at h;exact h.1.1
theorem zr5:(Rows.netFactorsRow.lifted == Try.pinned.checked.prog.liftsFinal)=true:=by
 have h:=zqI;simp only[qag]at h;exact h.1.2
theorem zsd:(Try.pinned.checked.prog.make == some Rows.netFactorsRow.make)=true:=by
 have h:=zqI;simp only[qag]at h;exact h.2
end Go.Proofs.Ytnfgibomhkbcpaa

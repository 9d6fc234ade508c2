/-
 Facts of the program as a whole that every claim asks for. Conditions: none.
-/
import Derived.Test.YtnfgibomhkbcpaaRows
import Derived.ProofKit
import Derived.Test.YtnfgibomhkbcpaaFuA
set_option linter.unusedSimpArgs false
set_option linter.unusedVariables false
set_option maxRecDepth 100000
namespace Go.Proofs.Ytnfgibomhkbcpaa
open Go.ChangeShapes Go.WideShapes Go.ChangeAt Go.RowKit
theorem zq4:laidOutB Try.pinned.checked.prog=true:=by kernel_rfl
theorem ztn:mapsRowed Try.pinned.checked.prog=true:=by kernel_rfl
theorem zrD:Try.pinned.checked.prog.stops=[]:=by kernel_rfl
theorem zsu:Try.pinned.checked.prog.stopKnobs=[]:=by kernel_rfl
theorem ztb:Try.pinned.checked.prog.plainKeys=true:=by kernel_rfl
theorem zrK:Try.pinned.checked.prog.stopsHeard=true:=by kernel_rfl
theorem zr1:(Try.pinned.checked.prog.mayEnter && (Rows.netFactorsRow.lifted == Try.pinned.checked.prog.liftsFinal) && (Try.pinned.checked.prog.make == some Rows.netFactorsRow.make))=true:=by kernel_rfl
theorem zss:Try.pinned.checked.prog.mayEnter=true:=by
 have h:=zr1;simp only[qag]at h;exact h.1.1
theorem ztk:(Rows.netFactorsRow.lifted == Try.pinned.checked.prog.liftsFinal)=true:=by
 have h:=zr1;simp only[qag]at h;exact h.1.2
theorem ztI:(Try.pinned.checked.prog.make == some Rows.netFactorsRow.make)=true:=by
 have h:=zr1;simp only[qag]at h;exact h.2
end Go.Proofs.Ytnfgibomhkbcpaa

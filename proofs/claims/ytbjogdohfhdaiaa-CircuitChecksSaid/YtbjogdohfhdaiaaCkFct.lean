/-
 Facts of the program as a whole that every claim asks for. Conditions: none.
-/
import Derived.Test.YtbjogdohfhdaiaaRows
import Derived.ProofKit
import Derived.Test.YtbjogdohfhdaiaaCkA
set_option linter.unusedSimpArgs false
set_option linter.unusedVariables false
set_option maxRecDepth 100000
namespace Go.Proofs.Ytbjogdohfhdaiaa
open Go.ChangeShapes Go.WideShapes Go.ChangeAt Go.RowKit
theorem zrT:laidOutB Try.pinned.checked.prog=true:=by kernel_rfl
theorem ztU:mapsRowed Try.pinned.checked.prog=true:=by kernel_rfl
theorem ztg:Try.pinned.checked.prog.stops=[]:=by kernel_rfl
theorem zsX:Try.pinned.checked.prog.stopKnobs=[]:=by kernel_rfl
theorem zux:Try.pinned.checked.prog.plainKeys=Rows.circuitChecksRow.plainKeys:=by kernel_rfl
theorem ztf:Try.pinned.checked.prog.stopsHeard=true:=by kernel_rfl
theorem zsm:(Try.pinned.checked.prog.mayEnter && (Rows.circuitChecksRow.lifted == Try.pinned.checked.prog.liftsFinal) && (Try.pinned.checked.prog.make == some Rows.circuitChecksRow.make))=true:=by kernel_rfl
theorem zs2:Try.pinned.checked.prog.mayEnter=true:=by
 have h:=zsm;simp only[qaf]at h;exact h.1.1
theorem zu8:(Rows.circuitChecksRow.lifted == Try.pinned.checked.prog.liftsFinal)=true:=by
 have h:=zsm;simp only[qaf]at h;exact h.1.2
theorem zue:(Try.pinned.checked.prog.make == some Rows.circuitChecksRow.make)=true:=by
 have h:=zsm;simp only[qaf]at h;exact h.2
end Go.Proofs.Ytbjogdohfhdaiaa

/-
 Facts of the program as a whole that every claim asks for. Conditions: none.
-/
import Derived.Test.YtbjogdohfhdaiaaRows
import Derived.ProofKit
import Derived.Test.YtbjogdohfhdaiaaEkA
set_option linter.unusedSimpArgs false
set_option linter.unusedVariables false
set_option maxRecDepth 100000
namespace Go.Proofs.Ytbjogdohfhdaiaa
open Go.ChangeShapes Go.WideShapes Go.ChangeAt Go.RowKit
theorem zqS:laidOutB Try.pinned.checked.prog=true:=by kernel_rfl
theorem zsY:mapsRowed Try.pinned.checked.prog=true:=by kernel_rfl
theorem zrf:Try.pinned.checked.prog.stops=[]:=by kernel_rfl
theorem zrD:Try.pinned.checked.prog.stopKnobs=[]:=by kernel_rfl
theorem zsx:Try.pinned.checked.prog.plainKeys=true:=by kernel_rfl
theorem zrv:Try.pinned.checked.prog.stopsHeard=true:=by kernel_rfl
theorem zrJ:(Try.pinned.checked.prog.mayEnter && (Rows.circuitChecksRow.lifted == Try.pinned.checked.prog.liftsFinal) && (Try.pinned.checked.prog.make == some Rows.circuitChecksRow.make))=true:=by kernel_rfl
theorem zrq:Try.pinned.checked.prog.mayEnter=true:=by
 have h:=zrJ;simp only[qag]at h;exact h.1.1
theorem zsE:(Rows.circuitChecksRow.lifted == Try.pinned.checked.prog.liftsFinal)=true:=by
 have h:=zrJ;simp only[qag]at h;exact h.1.2
theorem zsL:(Try.pinned.checked.prog.make == some Rows.circuitChecksRow.make)=true:=by
 have h:=zrJ;simp only[qag]at h;exact h.2
end Go.Proofs.Ytbjogdohfhdaiaa

/-
 Facts of the program as a whole that every claim asks for. Conditions: none.
-/
import Derived.Test.YtbjogdohfhdaiaaRows
import Derived.ProofKit
import Derived.Test.YtbjogdohfhdaiaaKfA
set_option linter.unusedSimpArgs false
set_option linter.unusedVariables false
set_option maxRecDepth 100000
namespace Go.Proofs.Ytbjogdohfhdaiaa
open Go.ChangeShapes Go.WideShapes Go.ChangeAt Go.RowKit
theorem zpJ:laidOutB Try.pinned.checked.prog=true:=by kernel_rfl
theorem zrb:mapsRowed Try.pinned.checked.prog=true:=by kernel_rfl
theorem zqG:Try.pinned.checked.prog.stops=[]:=by kernel_rfl
theorem zpV:Try.pinned.checked.prog.stopKnobs=[]:=by kernel_rfl
theorem zr9:Try.pinned.checked.prog.plainKeys=true:=by kernel_rfl
theorem zp9:Try.pinned.checked.prog.stopsHeard=true:=by kernel_rfl
theorem zqw:(Try.pinned.checked.prog.mayEnter && (Rows.circuitChecksRow.lifted == Try.pinned.checked.prog.liftsFinal) && (Try.pinned.checked.prog.make == some Rows.circuitChecksRow.make))=true:=by kernel_rfl
theorem zpO:Try.pinned.checked.prog.mayEnter=true:=by
 have h:=zqw;simp only[qah]at h;exact h.1.1
theorem zry:(Rows.circuitChecksRow.lifted == Try.pinned.checked.prog.liftsFinal)=true:=by
 have h:=zqw;simp only[qah]at h;exact h.1.2
theorem zrW:(Try.pinned.checked.prog.make == some Rows.circuitChecksRow.make)=true:=by
 have h:=zqw;simp only[qah]at h;exact h.2
end Go.Proofs.Ytbjogdohfhdaiaa

/-
 Facts of the program as a whole that every claim asks for. Conditions: none.
-/
import Derived.Test.YtbjogdohfhdaiaaRows
import Derived.ProofKit
import Derived.Test.YtbjogdohfhdaiaaCaA
set_option linter.unusedSimpArgs false
set_option linter.unusedVariables false
set_option maxRecDepth 100000
namespace Go.Proofs.Ytbjogdohfhdaiaa
open Go.ChangeShapes Go.WideShapes Go.ChangeAt Go.RowKit
theorem zsM:laidOutB Try.pinned.checked.prog=true:=by kernel_rfl
theorem zu4:mapsRowed Try.pinned.checked.prog=true:=by kernel_rfl
theorem zua:Try.pinned.checked.prog.stops=[]:=by kernel_rfl
theorem ztm:Try.pinned.checked.prog.stopKnobs=[]:=by kernel_rfl
theorem zuO:Try.pinned.checked.prog.plainKeys=Rows.circuitChecksRow.plainKeys:=by kernel_rfl
theorem zte:Try.pinned.checked.prog.stopsHeard=true:=by kernel_rfl
theorem zuc:(Try.pinned.checked.prog.mayEnter && (Rows.circuitChecksRow.lifted == Try.pinned.checked.prog.liftsFinal) && (Try.pinned.checked.prog.make == some Rows.circuitChecksRow.make))=true:=by kernel_rfl
theorem ztD:Try.pinned.checked.prog.mayEnter=true:=by
 have h:=zuc;simp only[qaf]at h;exact h.1.1
theorem zvE:(Rows.circuitChecksRow.lifted == Try.pinned.checked.prog.liftsFinal)=true:=by
 have h:=zuc;simp only[qaf]at h;exact h.1.2
theorem zvl:(Try.pinned.checked.prog.make == some Rows.circuitChecksRow.make)=true:=by
 have h:=zuc;simp only[qaf]at h;exact h.2
end Go.Proofs.Ytbjogdohfhdaiaa

/-
 Facts of the program as a whole that every claim asks for. Conditions: none.
-/
import Derived.Test.YtbjogdohfhdaiaaRows
import Derived.ProofKit
import Derived.Test.YtbjogdohfhdaiaaCfA
set_option linter.unusedSimpArgs false
set_option linter.unusedVariables false
set_option maxRecDepth 100000
namespace Go.Proofs.Ytbjogdohfhdaiaa
open Go.ChangeShapes Go.WideShapes Go.ChangeAt Go.RowKit
theorem zxi:laidOutB Try.pinned.checked.prog=true:=by kernel_rfl
theorem zBq:mapsRowed Try.pinned.checked.prog=true:=by kernel_rfl
theorem zy5:Try.pinned.checked.prog.stops=[]:=by kernel_rfl
theorem zy6:Try.pinned.checked.prog.stopKnobs=[]:=by kernel_rfl
theorem zBc:Try.pinned.checked.prog.plainKeys=Rows.circuitChecksRow.plainKeys:=by kernel_rfl
theorem zyO:Try.pinned.checked.prog.stopsHeard=true:=by kernel_rfl
theorem zzk:(Try.pinned.checked.prog.mayEnter && (Rows.circuitChecksRow.lifted == Try.pinned.checked.prog.liftsFinal) && (Try.pinned.checked.prog.make == some Rows.circuitChecksRow.make))=true:=by kernel_rfl
theorem zzv:Try.pinned.checked.prog.mayEnter=true:=by
 have h:=zzk;simp only[qae]at h;exact h.1.1
theorem zBa:(Rows.circuitChecksRow.lifted == Try.pinned.checked.prog.liftsFinal)=true:=by
 have h:=zzk;simp only[qae]at h;exact h.1.2
theorem zAz:(Try.pinned.checked.prog.make == some Rows.circuitChecksRow.make)=true:=by
 have h:=zzk;simp only[qae]at h;exact h.2
end Go.Proofs.Ytbjogdohfhdaiaa

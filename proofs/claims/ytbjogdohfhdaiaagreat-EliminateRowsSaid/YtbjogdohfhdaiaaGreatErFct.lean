/-
 Facts of the program as a whole that every claim asks for. Conditions: none.
-/
import Derived.Test.YtbjogdohfhdaiaaGreatRows
import Derived.ProofKit
import Derived.Test.YtbjogdohfhdaiaaGreatErA
set_option linter.unusedSimpArgs false
set_option linter.unusedVariables false
set_option maxRecDepth 100000
namespace Go.Proofs.YtbjogdohfhdaiaaGreat
open Go.ChangeShapes Go.WideShapes Go.ChangeAt Go.RowKit
theorem zAr:laidOutB Tryz.pinned.checked.prog=true:=by kernel_rfl
theorem zF5:mapsRowed Tryz.pinned.checked.prog=true:=by kernel_rfl
theorem zB1:Tryz.pinned.checked.prog.stops=[]:=by kernel_rfl
theorem zCz:Tryz.pinned.checked.prog.stopKnobs=[]:=by kernel_rfl
theorem zE7:Tryz.pinned.checked.prog.plainKeys=Rows.eliminateFindsRow.plainKeys:=by kernel_rfl
theorem zBj:Tryz.pinned.checked.prog.stopsHeard=true:=by kernel_rfl
theorem zCL:(Tryz.pinned.checked.prog.mayEnter && (Rows.eliminateFindsRow.lifted == Tryz.pinned.checked.prog.liftsFinal) && (Tryz.pinned.checked.prog.make == some Rows.eliminateFindsRow.make))=true:=by kernel_rfl
theorem zCb:Tryz.pinned.checked.prog.mayEnter=true:=by
 have h:=zCL;simp only[qai]at h;exact h.1.1
theorem zDM:(Rows.eliminateFindsRow.lifted == Tryz.pinned.checked.prog.liftsFinal)=true:=by
 have h:=zCL;simp only[qai]at h;exact h.1.2
theorem zEj:(Tryz.pinned.checked.prog.make == some Rows.eliminateFindsRow.make)=true:=by
 have h:=zCL;simp only[qai]at h;exact h.2
end Go.Proofs.YtbjogdohfhdaiaaGreat

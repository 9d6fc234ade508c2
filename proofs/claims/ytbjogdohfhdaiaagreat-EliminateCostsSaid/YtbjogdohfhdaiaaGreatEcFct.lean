/-
 Facts of the program as a whole that every claim asks for. Conditions: none.
-/
import Derived.Test.YtbjogdohfhdaiaaGreatRows
import Derived.ProofKit
import Derived.Test.YtbjogdohfhdaiaaGreatEcA
set_option linter.unusedSimpArgs false
set_option linter.unusedVariables false
set_option maxRecDepth 100000
namespace Go.Proofs.YtbjogdohfhdaiaaGreat
open Go.ChangeShapes Go.WideShapes Go.ChangeAt Go.RowKit
theorem zAK:laidOutB Tryz.pinned.checked.prog=true:=by kernel_rfl
theorem zDi:mapsRowed Tryz.pinned.checked.prog=true:=by kernel_rfl
theorem zB4:Tryz.pinned.checked.prog.stops=[]:=by kernel_rfl
theorem zCu:Tryz.pinned.checked.prog.stopKnobs=[]:=by kernel_rfl
theorem zD5:Tryz.pinned.checked.prog.plainKeys=Rows.eliminateFindsRow.plainKeys:=by kernel_rfl
theorem zBD:Tryz.pinned.checked.prog.stopsHeard=true:=by kernel_rfl
theorem zCa:(Tryz.pinned.checked.prog.mayEnter && (Rows.eliminateFindsRow.lifted == Tryz.pinned.checked.prog.liftsFinal) && (Tryz.pinned.checked.prog.make == some Rows.eliminateFindsRow.make))=true:=by kernel_rfl
theorem zCD:Tryz.pinned.checked.prog.mayEnter=true:=by
 have h:=zCa;simp only[qah]at h;exact h.1.1
theorem zEV:(Rows.eliminateFindsRow.lifted == Tryz.pinned.checked.prog.liftsFinal)=true:=by
 have h:=zCa;simp only[qah]at h;exact h.1.2
theorem zD2:(Tryz.pinned.checked.prog.make == some Rows.eliminateFindsRow.make)=true:=by
 have h:=zCa;simp only[qah]at h;exact h.2
end Go.Proofs.YtbjogdohfhdaiaaGreat

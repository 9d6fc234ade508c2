/-
 Facts of the program as a whole that every claim asks for. Conditions: none.
-/
import Derived.Test.YtbjogdohfhdaiaaGreatRows
import Derived.ProofKit
import Derived.Test.YtbjogdohfhdaiaaGreatENA
set_option linter.unusedSimpArgs false
set_option linter.unusedVariables false
set_option maxRecDepth 100000
namespace Go.Proofs.YtbjogdohfhdaiaaGreat
open Go.ChangeShapes Go.WideShapes Go.ChangeAt Go.RowKit
theorem zxj:laidOutB Tryz.pinned.checked.prog=true:=by kernel_rfl
theorem zAz:mapsRowed Tryz.pinned.checked.prog=true:=by kernel_rfl
theorem zzr:Tryz.pinned.checked.prog.stops=[]:=by kernel_rfl
theorem zy0:Tryz.pinned.checked.prog.stopKnobs=[]:=by kernel_rfl
theorem zAM:Tryz.pinned.checked.prog.plainKeys=Rows.eliminateFindsRow.plainKeys:=by kernel_rfl
theorem zzs:Tryz.pinned.checked.prog.stopsHeard=true:=by kernel_rfl
theorem zyk:(Tryz.pinned.checked.prog.mayEnter && (Rows.eliminateFindsRow.lifted == Tryz.pinned.checked.prog.liftsFinal) && (Tryz.pinned.checked.prog.make == some Rows.eliminateFindsRow.make))=true:=by kernel_rfl
theorem zyW:Tryz.pinned.checked.prog.mayEnter=true:=by
 have h:=zyk;simp only[qag]at h;exact h.1.1
theorem zBW:(Rows.eliminateFindsRow.lifted == Tryz.pinned.checked.prog.liftsFinal)=true:=by
 have h:=zyk;simp only[qag]at h;exact h.1.2
theorem zCj:(Tryz.pinned.checked.prog.make == some Rows.eliminateFindsRow.make)=true:=by
 have h:=zyk;simp only[qag]at h;exact h.2
end Go.Proofs.YtbjogdohfhdaiaaGreat

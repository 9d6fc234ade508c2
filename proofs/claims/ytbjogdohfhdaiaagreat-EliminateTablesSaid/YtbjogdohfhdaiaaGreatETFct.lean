/-
 Facts of the program as a whole that every claim asks for. Conditions: none.
-/
import Derived.Test.YtbjogdohfhdaiaaGreatRows
import Derived.ProofKit
import Derived.Test.YtbjogdohfhdaiaaGreatETA
set_option linter.unusedSimpArgs false
set_option linter.unusedVariables false
set_option maxRecDepth 100000
namespace Go.Proofs.YtbjogdohfhdaiaaGreat
open Go.ChangeShapes Go.WideShapes Go.ChangeAt Go.RowKit
theorem zxZ:laidOutB Tryz.pinned.checked.prog=true:=by kernel_rfl
theorem zBS:mapsRowed Tryz.pinned.checked.prog=true:=by kernel_rfl
theorem zzU:Tryz.pinned.checked.prog.stops=[]:=by kernel_rfl
theorem zAk:Tryz.pinned.checked.prog.stopKnobs=[]:=by kernel_rfl
theorem zCZ:Tryz.pinned.checked.prog.plainKeys=Rows.eliminateFindsRow.plainKeys:=by kernel_rfl
theorem zzh:Tryz.pinned.checked.prog.stopsHeard=true:=by kernel_rfl
theorem zzq:(Tryz.pinned.checked.prog.mayEnter && (Rows.eliminateFindsRow.lifted == Tryz.pinned.checked.prog.liftsFinal) && (Tryz.pinned.checked.prog.make == some Rows.eliminateFindsRow.make))=true:=by kernel_rfl
theorem zAO:Tryz.pinned.checked.prog.mayEnter=true:=by
 have h:=zzq;simp only[qaf]at h;exact h.1.1
theorem zCz:(Rows.eliminateFindsRow.lifted == Tryz.pinned.checked.prog.liftsFinal)=true:=by
 have h:=zzq;simp only[qaf]at h;exact h.1.2
theorem zCw:(Tryz.pinned.checked.prog.make == some Rows.eliminateFindsRow.make)=true:=by
 have h:=zzq;simp only[qaf]at h;exact h.2
end Go.Proofs.YtbjogdohfhdaiaaGreat

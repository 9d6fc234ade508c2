/-
 Facts of the program as a whole that every claim asks for. Conditions: none.
-/
import Derived.Test.YtbjogdohfhdaiaaGreatRows
import Derived.ProofKit
import Derived.Test.YtbjogdohfhdaiaaGreatESA
set_option linter.unusedSimpArgs false
set_option linter.unusedVariables false
set_option maxRecDepth 100000
namespace Go.Proofs.YtbjogdohfhdaiaaGreat
open Go.ChangeShapes Go.WideShapes Go.ChangeAt Go.RowKit
theorem zvS:laidOutB Tryz.pinned.checked.prog=true:=by kernel_rfl
theorem zyB:mapsRowed Tryz.pinned.checked.prog=true:=by kernel_rfl
theorem zwb:Tryz.pinned.checked.prog.stops=[]:=by kernel_rfl
theorem zxg:Tryz.pinned.checked.prog.stopKnobs=[]:=by kernel_rfl
theorem zzQ:Tryz.pinned.checked.prog.plainKeys=Rows.eliminateFindsRow.plainKeys:=by kernel_rfl
theorem zwy:Tryz.pinned.checked.prog.stopsHeard=true:=by kernel_rfl
theorem zwP:(Tryz.pinned.checked.prog.mayEnter && (Rows.eliminateFindsRow.lifted == Tryz.pinned.checked.prog.liftsFinal) && (Tryz.pinned.checked.prog.make == some Rows.eliminateFindsRow.make))=true:=by kernel_rfl
theorem zwK:Tryz.pinned.checked.prog.mayEnter=true:=by
 have h:=zwP;simp only[qaf]at h;exact h.1.1
theorem zy8:(Rows.eliminateFindsRow.lifted == Tryz.pinned.checked.prog.liftsFinal)=true:=by
 have h:=zwP;simp only[qaf]at h;exact h.1.2
theorem zzj:(Tryz.pinned.checked.prog.make == some Rows.eliminateFindsRow.make)=true:=by
 have h:=zwP;simp only[qaf]at h;exact h.2
end Go.Proofs.YtbjogdohfhdaiaaGreat

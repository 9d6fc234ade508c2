/-
 Facts of the program as a whole that every claim asks for. Conditions: none.
-/
import Derived.Test.YtifdmgbehogecaaRows
import Derived.ProofKit
import Derived.Test.YtifdmgbehogecaaNwA
set_option linter.unusedSimpArgs false
set_option linter.unusedVariables false
set_option maxRecDepth 100000
namespace Go.Proofs.Ytifdmgbehogecaa
open Go.ChangeShapes Go.WideShapes Go.ChangeAt Go.RowKit
theorem zsJ:laidOutB Try.pinned.checked.prog=true:=by kernel_rfl
theorem zve:mapsRowed Try.pinned.checked.prog=true:=by kernel_rfl
theorem zt7:Try.pinned.checked.prog.stops=[]:=by kernel_rfl
theorem zte:Try.pinned.checked.prog.stopKnobs=[]:=by kernel_rfl
theorem zvL:Try.pinned.checked.prog.plainKeys=true:=by kernel_rfl
theorem zum:Try.pinned.checked.prog.stopsHeard=true:=by kernel_rfl
theorem zt5:(Try.pinned.checked.prog.mayEnter && (Rows.netGraphsRow.lifted == Try.pinned.checked.prog.liftsFinal) && (Try.pinned.checked.prog.make == some Rows.netGraphsRow.make))=true:=by kernel_rfl
theorem ztl:Try.pinned.checked.prog.mayEnter=true:=by
 have h:=zt5;simp only[qag]at h;exact h.1.1
theorem zv9:(Rows.netGraphsRow.lifted == Try.pinned.checked.prog.liftsFinal)=true:=by
 have h:=zt5;simp only[qag]at h;exact h.1.2
theorem zvt:(Try.pinned.checked.prog.make == some Rows.netGraphsRow.make)=true:=by
 have h:=zt5;simp only[qag]at h;exact h.2
end Go.Proofs.Ytifdmgbehogecaa

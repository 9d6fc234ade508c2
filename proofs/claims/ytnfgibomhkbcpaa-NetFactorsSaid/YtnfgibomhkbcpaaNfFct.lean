/-
 Facts of the program as a whole that every claim asks for. Conditions: none.
-/
import Derived.Test.YtnfgibomhkbcpaaRows
import Derived.ProofKit
import Derived.Test.YtnfgibomhkbcpaaNfA
set_option linter.unusedSimpArgs false
set_option linter.unusedVariables false
set_option maxRecDepth 100000
namespace Go.Proofs.Ytnfgibomhkbcpaa
open Go.ChangeShapes Go.WideShapes Go.ChangeAt Go.RowKit
theorem zuw:laidOutB Try.pinned.checked.prog=true:=by kernel_rfl
theorem zwu:mapsRowed Try.pinned.checked.prog=true:=by kernel_rfl
theorem zvE:Try.pinned.checked.prog.stops=[]:=by kernel_rfl
theorem zuL:Try.pinned.checked.prog.stopKnobs=[]:=by kernel_rfl
theorem zwP:Try.pinned.checked.prog.plainKeys=true:=by kernel_rfl
theorem zuK:Try.pinned.checked.prog.stopsHeard=true:=by kernel_rfl
theorem zuV:(Try.pinned.checked.prog.mayEnter && (Rows.netFactorsRow.lifted == Try.pinned.checked.prog.liftsFinal) && (Try.pinned.checked.prog.make == some Rows.netFactorsRow.make))=true:=by kernel_rfl
theorem zuN:Try.pinned.checked.prog.mayEnter=true:=by
 have h:=zuV;simp only[qah]at h;exact h.1.1
theorem zx2:(Rows.netFactorsRow.lifted == Try.pinned.checked.prog.liftsFinal)=true:=by
 have h:=zuV;simp only[qah]at h;exact h.1.2
theorem zw2:(Try.pinned.checked.prog.make == some Rows.netFactorsRow.make)=true:=by
 have h:=zuV;simp only[qah]at h;exact h.2
end Go.Proofs.Ytnfgibomhkbcpaa

/-
 Facts of the program as a whole that every claim asks for. Conditions: none.
-/
import Derived.Test.YtnfgibomhkbcpaaRows
import Derived.ProofKit
import Derived.Test.YtnfgibomhkbcpaaNtA
set_option linter.unusedSimpArgs false
set_option linter.unusedVariables false
set_option maxRecDepth 100000
namespace Go.Proofs.Ytnfgibomhkbcpaa
open Go.ChangeShapes Go.WideShapes Go.ChangeAt Go.RowKit
theorem zvc:laidOutB Try.pinned.checked.prog=true:=by kernel_rfl
theorem zx1:mapsRowed Try.pinned.checked.prog=true:=by kernel_rfl
theorem zwf:Try.pinned.checked.prog.stops=[]:=by kernel_rfl
theorem zv8:Try.pinned.checked.prog.stopKnobs=[]:=by kernel_rfl
theorem zy9:Try.pinned.checked.prog.plainKeys=true:=by kernel_rfl
theorem zxr:Try.pinned.checked.prog.stopsHeard=true:=by kernel_rfl
theorem zwB:(Try.pinned.checked.prog.mayEnter && (Rows.netFactorsRow.lifted == Try.pinned.checked.prog.liftsFinal) && (Try.pinned.checked.prog.make == some Rows.netFactorsRow.make))=true:=by kernel_rfl
theorem zv4:Try.pinned.checked.prog.mayEnter=true:=by
 have h:=zwB;simp only[qah]at h;exact h.1.1
theorem zx2:(Rows.netFactorsRow.lifted == Try.pinned.checked.prog.liftsFinal)=true:=by
 have h:=zwB;simp only[qah]at h;exact h.1.2
theorem zyk:(Try.pinned.checked.prog.make == some Rows.netFactorsRow.make)=true:=by
 have h:=zwB;simp only[qah]at h;exact h.2
end Go.Proofs.Ytnfgibomhkbcpaa

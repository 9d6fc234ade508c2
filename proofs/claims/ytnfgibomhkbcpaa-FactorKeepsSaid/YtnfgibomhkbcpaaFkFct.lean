/-
 Facts of the program as a whole that every claim asks for. Conditions: none.
-/
import Derived.Test.YtnfgibomhkbcpaaRows
import Derived.ProofKit
import Derived.Test.YtnfgibomhkbcpaaFkA
set_option linter.unusedSimpArgs false
set_option linter.unusedVariables false
set_option maxRecDepth 100000
namespace Go.Proofs.Ytnfgibomhkbcpaa
open Go.ChangeShapes Go.WideShapes Go.ChangeAt Go.RowKit
theorem zq9:laidOutB Try.pinned.checked.prog=true:=by kernel_rfl
theorem zsQ:mapsRowed Try.pinned.checked.prog=true:=by kernel_rfl
theorem zsd:Try.pinned.checked.prog.stops=[]:=by kernel_rfl
theorem zrM:Try.pinned.checked.prog.stopKnobs=[]:=by kernel_rfl
theorem ztb:Try.pinned.checked.prog.plainKeys=true:=by kernel_rfl
theorem zrE:Try.pinned.checked.prog.stopsHeard=true:=by kernel_rfl
theorem zrN:(Try.pinned.checked.prog.mayEnter && (Rows.netFactorsRow.lifted == Try.pinned.checked.prog.liftsFinal) && (Try.pinned.checked.prog.make == some Rows.netFactorsRow.make))=true:=by kernel_rfl
theorem zrn:Try.pinned.checked.prog.mayEnter=true:=by
 have h:=zrN;simp only[qaf]at h;exact h.1.1
theorem zs1:(Rows.netFactorsRow.lifted == Try.pinned.checked.prog.liftsFinal)=true:=by
 have h:=zrN;simp only[qaf]at h;exact h.1.2
theorem ztn:(Try.pinned.checked.prog.make == some Rows.netFactorsRow.make)=true:=by
 have h:=zrN;simp only[qaf]at h;exact h.2
end Go.Proofs.Ytnfgibomhkbcpaa

/-
  Facts of the program as a whole that every claim asks for. Conditions: none.
-/
import Derived.Test.YtobhjbbinnbdaaaRows
import Derived.ProofKit
namespace Go.Proofs.Ytobhjbbinnbdaaa
open Go.ChangeShapes Go.WideShapes Go.ChangeAt Go.RowKit
set_option maxRecDepth 100000
theorem zqV : laidOutB Try.pinned.checked.prog = true := by kernel_rfl
theorem zug : mapsRowed Try.pinned.checked.prog = true := by kernel_rfl
theorem zsi : Try.pinned.checked.prog.stops = [] := by kernel_rfl
theorem zsf : Try.pinned.checked.prog.stopKnobs = [] := by kernel_rfl
theorem ztn : Try.pinned.checked.prog.plainKeys = true := by kernel_rfl
theorem zrL : Try.pinned.checked.prog.stopsHeard = true := by kernel_rfl
theorem zru : (Try.pinned.checked.prog.mayEnter && (Rows.netKnownRow.lifted == Try.pinned.checked.prog.liftsFinal) && (Try.pinned.checked.prog.make == some Rows.netKnownRow.make)) = true := by kernel_rfl
theorem zr6 : Try.pinned.checked.prog.mayEnter = true := by
  have h := zru
  simp only [Bool.and_eq_true] at h
  exact h.1.1
theorem ztH : (Rows.netKnownRow.lifted == Try.pinned.checked.prog.liftsFinal) = true := by
  have h := zru
  simp only [Bool.and_eq_true] at h
  exact h.1.2
theorem zub : (Try.pinned.checked.prog.make == some Rows.netKnownRow.make) = true := by
  have h := zru
  simp only [Bool.and_eq_true] at h
  exact h.2
end Go.Proofs.Ytobhjbbinnbdaaa

/-
  Facts of the program as a whole that every claim asks for. Conditions: none.
-/
import Derived.Test.YtobhjbbinnbdaaaRows
import Derived.ProofKit
namespace Go.Proofs.Ytobhjbbinnbdaaa
open Go.ChangeShapes Go.WideShapes Go.ChangeAt Go.RowKit
set_option linter.unusedSimpArgs false
set_option linter.unusedVariables false
set_option maxRecDepth 100000
theorem p_laid : laidOutB Try.pinned.checked.prog = true := by kernel_rfl
theorem p_maps : mapsRowed Try.pinned.checked.prog = true := by kernel_rfl
theorem p_stops : Try.pinned.checked.prog.stops = [] := by kernel_rfl
theorem p_knobs : Try.pinned.checked.prog.stopKnobs = [] := by kernel_rfl
theorem p_keys : Try.pinned.checked.prog.plainKeys = true := by kernel_rfl
theorem p_heard : Try.pinned.checked.prog.stopsHeard = true := by kernel_rfl
theorem p_env : (Try.pinned.checked.prog.mayEnter && (Rows.netKnownRow.lifted == Try.pinned.checked.prog.liftsFinal) && (Try.pinned.checked.prog.make == some Rows.netKnownRow.make)) = true := by kernel_rfl
theorem p_enter : Try.pinned.checked.prog.mayEnter = true := by
  have h := p_env
  simp only [Bool.and_eq_true] at h
  exact h.1.1
theorem p_lift : (Rows.netKnownRow.lifted == Try.pinned.checked.prog.liftsFinal) = true := by
  have h := p_env
  simp only [Bool.and_eq_true] at h
  exact h.1.2
theorem p_make : (Try.pinned.checked.prog.make == some Rows.netKnownRow.make) = true := by
  have h := p_env
  simp only [Bool.and_eq_true] at h
  exact h.2
end Go.Proofs.Ytobhjbbinnbdaaa

/-
  NetKnown returns true: the kernel has run it. Conditions: none.
-/
import Derived.Test.YtobhjbbinnbdaaaTabN
import Derived.Test.YtobhjbbinnbdaaaMx22
namespace Go.Proofs.Ytobhjbbinnbdaaa.N
open Go Go.Mx
set_option linter.unusedSimpArgs false
set_option linter.unusedVariables false
set_option maxRecDepth 100000
theorem mixed : Try.prog.follows .mixedOrders = true := by kernel_rfl
theorem works_run : okTrueY ((Mx.runY noD (lookT tab) 60).call 0 37 [] HY.empty) = true := by kernel_rfl
theorem works_calls (w : World) : Calls Try.prog 37 #[] w fun e w' => e = .returned (.bool true) ∧ Go.RowKit.Below w.heap.size w w' :=
  calls_of_runY mixed tab_ok (noD_ok _) works_run w
/-- The examples are known to hold. -/
def dW : Dcd := fun _ f args => match args with
  | [] => bif Nat.beq f 37 then some ⟨fun _ => .ret (.lit (.bool true)), none⟩ else none
  | _ => none
theorem dW_ok : OrcOk Try.prog (orcOf dW) := by
  intro B f args h cr h' ho
  unfold orcOf dW at ho
  cases args with
  | cons a r => cases ho
  | nil =>
    simp only at ho
    cases hf : Nat.beq f 37 with
    | false => rw [hf] at ho; cases ho
    | true =>
      rw [hf] at ho
      have := Nat.eq_of_beq_eq_true hf
      subst this
      cases ho
      exact callOk_true (by kernel_rfl) works_calls B h
end Go.Proofs.Ytobhjbbinnbdaaa.N

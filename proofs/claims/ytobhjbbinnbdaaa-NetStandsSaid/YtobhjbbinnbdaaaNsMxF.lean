/-
  The machine with an oracle. Conditions: none.
-/
import Derived.Test.YtobhjbbinnbdaaaNsMx13
namespace Go.Mx
open Go
set_option linter.unusedSimpArgs false
set_option linter.unusedVariables false

abbrev Orc := Nat → Nat → List V → Heap → Option (CR × Heap)
/-- What the oracle says is so. -/
def OrcOk (P : Program) (orc : Orc) : Prop := ∀ B f args h cr h', orc B f args h = some (cr, h') → CallOk P B f args h cr h' ∧ Keeps B h h'
def askO {α : Type} (x : Option α) (y : Option α) : Option α := match x with | some v => some v | none => y
def runO (orc : Orc) (fns : Nat → Option Fn) : Nat → Rec
  | 0 => Rec.none
  | n + 1 => ⟨exec (runO orc fns n), fun B f args h => askO (orc B f args h) (callF (runO orc fns n) fns B f args h), callD (runO orc fns n) fns⟩
theorem runO_ok {P : Program} (hm : P.follows .mixedOrders = true) {fns : Nat → Option Fn} (hfns : ∀ f fn, fns f = some fn → FnOk P f fn) {orc : Orc} (ho : OrcOk P orc) : ∀ n, RecOk P (runO orc fns n)
  | 0 => ⟨fun _ _ _ _ _ _ h => (by cases h), fun _ _ _ _ _ _ h => (by cases h), fun _ _ _ _ _ _ _ h => (by cases h)⟩
  | n + 1 => by
    have hr := runO_ok hm hfns ho n
    refine ⟨fun B rd c S ex S' h => ⟨?_, fun hB => exec_keeps hr c S S' ex h hB hB⟩, fun B f args h cr h' hc => ?_, fun B f args pv h pv' h' hc => ⟨callD_sound hm hr hfns hc, callD_keeps hr hc⟩⟩
    · intro N code w1 ι a w rb hcomp hF hrd
      subst hcomp
      exact exec_sound hm hr code S S' ex w1 ι a w rb h hF hrd
    · simp only [runO] at hc
      cases hx : orc B f args h with
      | some y => rw [hx] at hc; cases hc; exact ho _ _ _ _ _ _ hx
      | none => rw [hx] at hc; exact callF_sound hm hr hfns hc
/-- A closed call that returns true and leaves no trace may be asked of the oracle. -/
theorem callOk_true {P : Program} {f : Nat} (hb : bodyOk P f = true) (hc : ∀ w : World, Calls P f #[] w fun e w' => e = .returned (.bool true) ∧ Go.RowKit.Below w.heap.size w w') (B : Nat) (h : Heap) :
    CallOk P B f [] h (.ret (.lit (.bool true))) h ∧ Keeps B h h := by
  refine ⟨fun w1 ι w vs hS ha => ⟨hb, ?_⟩, Keeps.refl _ _⟩
  have hvs : vs = #[] := Array.eq_empty_of_size_eq_zero (by simpa using ha.1)
  subst hvs
  have : CallsIn Fence.wide 0 P f #[] w fun e w' => e = .returned (.bool true) ∧ Go.RowKit.Below w.heap.size w w' := callsIn_wide.2 (hc w)
  exact CallsIn.mono this fun e w' hp => ⟨ι, Io.le.refl _, hS.still hp.2, _, hp.1, .lit _⟩
end Go.Mx

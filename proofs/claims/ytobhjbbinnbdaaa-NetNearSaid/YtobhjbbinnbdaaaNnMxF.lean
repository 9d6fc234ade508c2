/-
  The machine with an oracle. Conditions: none.
-/
import Derived.Test.YtobhjbbinnbdaaaNnMx13
namespace Go.Mx
open Go
abbrev Orc := Nat → Nat → List V → zaj → Option (CR × zaj)
def zn8 (P : Program) (orc : Orc) : Prop := ∀ B f args h cr h', orc B f args h = some (cr, h') → zhq P B f args h cr h' ∧ zas B h h'
def zuU {α : Type} (x : Option α) (y : Option α) : Option α := match x with | some v => some v | none => y
def zo0 (orc : Orc) (fns : Nat → Option Fn) : Nat → Rec
  | 0 => Rec.none
  | n + 1 => ⟨exec (zo0 orc fns n), fun B f args h => zuU (orc B f args h) (zga (zo0 orc fns n) fns B f args h), zj9 (zo0 orc fns n) fns⟩
theorem zkT {P : Program} (hm : P.follows .mixedOrders = true) {fns : Nat → Option Fn} (hfns : ∀ f fn, fns f = some fn → zbv P f fn) {orc : Orc} (ho : zn8 P orc) : ∀ n, RecOk P (zo0 orc fns n)
  | 0 => ⟨fun _ _ _ _ _ _ h => (by cases h), fun _ _ _ _ _ _ h => (by cases h), fun _ _ _ _ _ _ _ h => (by cases h)⟩
  | n + 1 => by
    have hr := zkT hm hfns ho n
    refine ⟨fun B rd c S ex S' h => ⟨?_, fun hB => zaS hr c S S' ex h hB hB⟩, fun B f args h cr h' hc => ?_, fun B f args pv h pv' h' hc => ⟨zkk hm hr hfns hc, zkb hr hc⟩⟩
    · intro N code w1 ι a w rb hcomp hF hrd
      subst hcomp
      exact zbr hm hr code S S' ex w1 ι a w rb h hF hrd
    · simp only [zo0] at hc
      cases hx : orc B f args h with
      | some y => rw [hx] at hc; cases hc; exact ho _ _ _ _ _ _ hx
      | none => rw [hx] at hc; exact zkn hm hr hfns hc
theorem zko {P : Program} {f : Nat} (hb : zex P f = true) (hc : ∀ w : World, Calls P f #[] w fun e w' => e = .returned (.bool true) ∧ Go.RowKit.Below w.heap.size w w') (B : Nat) (h : zaj) :
    zhq P B f [] h (.ret (.lit (.bool true))) h ∧ zas B h h := by
  refine ⟨fun w1 ι w vs hS ha => ⟨hb, ?_⟩, zas.refl _ _⟩
  have hvs : vs = #[] := Array.eq_empty_of_size_eq_zero (by simpa using ha.1)
  subst hvs
  have : CallsIn Fence.wide 0 P f #[] w fun e w' => e = .returned (.bool true) ∧ Go.RowKit.Below w.heap.size w w' := callsIn_wide.2 (hc w)
  exact CallsIn.mono this fun e w' hp => ⟨ι, Io.le.refl _, hS.still hp.2, _, hp.1, .lit _⟩
end Go.Mx

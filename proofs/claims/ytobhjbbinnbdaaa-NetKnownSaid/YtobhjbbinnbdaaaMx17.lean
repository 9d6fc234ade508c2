/-
  The machine with an oracle: calls whose outcome is known are not run again. Conditions: none.
-/
import Derived.Test.YtobhjbbinnbdaaaMx16
import Derived.Test.YtobhjbbinnbdaaaMxF
namespace Go.Mx
open Go
set_option linter.unusedSimpArgs false
set_option linter.unusedVariables false

def runOT (orc : Orc) (fns : Nat → Option Fn) : Nat → RecT
  | 0 => RecT.none
  | n + 1 => ⟨execT (runOT orc fns n), fun B f args h => askO (orc B f args h) (callFT (runOT orc fns n) fns B f args h), callD (runO orc fns n) fns⟩
theorem runOT_ok (orc : Orc) (fns : Nat → Option Fn) : ∀ n, RR (runOT orc fns n) (runO orc fns n)
  | 0 => ⟨fun _ _ _ _ _ _ _ _ h => (by cases h), fun _ _ _ _ _ h => (by cases h), fun _ _ _ _ _ _ h => (by cases h)⟩
  | n + 1 => by
    refine ⟨fun B rd c T S ex T' hS hc => execT_ok (runOT_ok orc fns n) c T T' S ex hS hc, fun B f args h x hc => ?_, fun B f args pv h x hc => hc⟩
    simp only [runOT] at hc
    simp only [runO]
    cases ho : orc B f args h with
    | some y => rw [ho] at hc; exact hc
    | none => rw [ho] at hc; exact callFT_ok (runOT_ok orc fns n) hc
/-- A run that the kernel has seen, with an oracle. -/
theorem calls_of_runO {P : Program} (hm : P.follows .mixedOrders = true) {tab : List (Nat × Fn)} (htab : ∀ x ∈ tab, FnOk P x.1 x.2) {orc : Orc} (ho : OrcOk P orc) {n f : Nat} (h : okTrue ((runOT orc (lookT tab) n).call 0 f [] []) = true) (w : World) :
    Calls P f #[] w fun e w' => e = .returned (.bool true) ∧ Go.RowKit.Below w.heap.size w w' := by
  have hok := runO_ok hm (fns := lookT tab) (fun f fn hf => htab _ (lookT_mem tab f fn hf)) ho n
  cases hc0 : (runOT orc (lookT tab) n).call 0 f [] [] with
  | none => rw [hc0] at h; cases h
  | some res =>
    rw [hc0] at h
    have hc := (runOT_ok orc (lookT tab) n).call _ _ _ _ _ hc0
    obtain ⟨cr, h'⟩ := res
    have hS : Sim P 0 w (fun _ => none) [] w := ⟨Nat.le_refl _, Go.RowKit.Below.refl _ _, by simp, by simp, by simp, by simp, by simp⟩
    obtain ⟨_, hcalls⟩ := (hok.call _ _ _ _ _ _ hc).1 w (fun _ => none) w #[] hS ⟨rfl, by simp⟩
    have hw : CallsIn Fence.wide 0 P f #[] w (CPost P 0 w (fun _ => none) cr h') := hcalls
    refine Calls.mono (callsIn_wide.1 hw) fun e w' hp => ?_
    obtain ⟨ι', _, hS', hp⟩ := hp
    unfold okTrue at h
    split at h
    · rename_i b h2 heq
      cases heq
      obtain ⟨u, rfl, hv⟩ := hp
      cases hv
      subst h
      exact ⟨rfl, hS'.below⟩
    · cases h
end Go.Mx

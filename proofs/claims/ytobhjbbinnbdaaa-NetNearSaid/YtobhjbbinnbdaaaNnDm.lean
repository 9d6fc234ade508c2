/-
  The machine of the program; the closed checks are known to be true. Conditions: none.
-/
import Derived.Test.YtobhjbbinnbdaaaNnDc4
import Derived.Test.YtobhjbbinnbdaaaRows
namespace Go.Dc
open Go Go.Mx Go.Lx Go.Proofs
def ztW : Orc := fun _ f args h => match args with
  | [] => bif Nat.beq f 37 then some (.ret (.lit (.bool true)), h) else none
  | _ :: _ => none
noncomputable def mC : Mach := ⟨ziB Try.prog, ztW⟩
theorem zav {f : Nat} (hf : Nat.beq f 37 = false) (B : Nat) (args : List V) (h : zaj) : mC.orc B f args h = none := by
  show ztW B f args h = none
  unfold ztW
  cases args with
  | nil => simp only; rw [hf]; rfl
  | cons _ _ => rfl
def zkJ : Option Bool := some true
theorem zpg {r : Bool} (h : zkJ = some r) : Lx.Fn mC 37 [] (.lit (.bool r)) := by
  cases h
  intro z B H vs hz hB hr
  have hvs : vs = [] := List.length_eq_zero_iff.1 (by simpa using hr.1.symm)
  subst hvs
  refine ⟨1, .ret (.lit (.bool true)), H, fun n hn => ?_, Nat.le_refl _, fun _ _ => rfl, _, fun _ => none, rfl, fun b cs hb => (by cases hb), .lit _⟩
  obtain ⟨n, rfl⟩ : ∃ k, n = k + 1 := ⟨n - 1, by omega⟩
  rfl
end Go.Dc

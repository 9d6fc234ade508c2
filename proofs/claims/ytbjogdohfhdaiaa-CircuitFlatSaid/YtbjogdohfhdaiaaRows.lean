/-
  No cell of these rows narrows 'for every input' (looked for: loops, veiled, ifaces, maps, wideKeys, modest, calm, conditions, laid).
  DERIVED. THE GIVEN ROWS OF THIS SEAT. 5 by the template 'for every input the law returns true; each argument reads behind the call as it read before'; 0 by the template 'total and deterministic' (their statements: YtbjogdohfhdaiaaTotals.lean).
  GIVEN WITH THE SEED: the statements are not yours to turn. If you find one false, say at which input.
  Laid BY PROGRAM, IN A SANDBOX (cutbox-rows.mjs): the forced cells as the released guide's own fill.sh prints them over the translation fdac25834697f857… (all of the seat's roots in one cut). By AI agents, Wed Nov 11 2026. No macro, syntax, notation, axiom, sorry.
-/
import Derived.Test.YtbjogdohfhdaiaaChecked
import GoSem.Claim
import GoSem.ClaimJoined
import GoSem.ClaimMapViews
import Derived.JoinedTies
import Derived.KernelRfl
namespace Go.Proofs.Ytbjogdohfhdaiaa
/- THE CELL 'sum', in the pinned program and in every row, IS THE sha256 OF THE DUMP (.gsa) THAT YtbjogdohfhdaiaaProg.lean LOADS. Nothing in Lean hashes anything: it is a label: what it is worth is what the hold of that sum in a sandbox is worth. -/
noncomputable def Try.pinned : Pinned := { name := "ytbjogdohfhdaiaa", sum := "fdac25834697f857bd2e4edfa0260d67d2d0f71ef85c7488d629978247800b67", checked := Try.checked }
namespace Rows
def none {H : Type} : Left H := { results := [], args := [] }

/-- 'haruspexlaw15.CircuitChecks': WHATEVER THE INPUT: true; the input reads as it did. -/
def circuitChecksSpec : ChangeSpec := { name := "circuitChecks", fn := fun _ => fun
  | [d1, d2, d3] => { results := [.lit (.bool true)], args := [d1, d2, d3] }
  | _ => none }
def circuitChecksRow : OpenClaim := { program := "ytbjogdohfhdaiaa", sum := "fdac25834697f857bd2e4edfa0260d67d2d0f71ef85c7488d629978247800b67", func := "haruspex/haruspexlaw15.CircuitChecks", spec := "circuitChecks", unfollowed := true, recurses := true, apart := false }
def CircuitChecksSaid : Prop := circuitChecksRow.holds Try.pinned (OpenSpec.ofChange circuitChecksSpec)

/-- ITS FALSE NEIGHBOUR: 'it returns false'. Refute it at one input. -/
def circuitChecksWrong : ChangeSpec := { name := "circuitChecks", fn := fun _ => fun
  | [d1, d2, d3] => { results := [.lit (.bool false)], args := [d1, d2, d3] }
  | _ => none }
def CircuitChecksWrongFalsely : Prop := circuitChecksRow.holds Try.pinned (OpenSpec.ofChange circuitChecksWrong)

/-- 'haruspexlaw15.CircuitAdds': WHATEVER THE INPUT: true; the input reads as it did. -/
def circuitAddsSpec : ChangeSpec := { name := "circuitAdds", fn := fun _ => fun
  | [d1, d2, d3] => { results := [.lit (.bool true)], args := [d1, d2, d3] }
  | _ => none }
def circuitAddsRow : OpenClaim := { program := "ytbjogdohfhdaiaa", sum := "fdac25834697f857bd2e4edfa0260d67d2d0f71ef85c7488d629978247800b67", func := "haruspex/haruspexlaw15.CircuitAdds", spec := "circuitAdds", unfollowed := true, recurses := true, apart := false }
def CircuitAddsSaid : Prop := circuitAddsRow.holds Try.pinned (OpenSpec.ofChange circuitAddsSpec)

/-- ITS FALSE NEIGHBOUR: 'it returns false'. Refute it at one input. -/
def circuitAddsWrong : ChangeSpec := { name := "circuitAdds", fn := fun _ => fun
  | [d1, d2, d3] => { results := [.lit (.bool false)], args := [d1, d2, d3] }
  | _ => none }
def CircuitAddsWrongFalsely : Prop := circuitAddsRow.holds Try.pinned (OpenSpec.ofChange circuitAddsWrong)

/-- 'haruspexlaw15.CircuitFlat': WHATEVER THE INPUT: true; the input reads as it did. -/
def circuitFlatSpec : ChangeSpec := { name := "circuitFlat", fn := fun _ => fun
  | [d1, d2, d3] => { results := [.lit (.bool true)], args := [d1, d2, d3] }
  | _ => none }
def circuitFlatRow : OpenClaim := { program := "ytbjogdohfhdaiaa", sum := "fdac25834697f857bd2e4edfa0260d67d2d0f71ef85c7488d629978247800b67", func := "haruspex/haruspexlaw15.CircuitFlat", spec := "circuitFlat", unfollowed := true, recurses := true, apart := false }
def CircuitFlatSaid : Prop := circuitFlatRow.holds Try.pinned (OpenSpec.ofChange circuitFlatSpec)

/-- ITS FALSE NEIGHBOUR: 'it returns false'. Refute it at one input. -/
def circuitFlatWrong : ChangeSpec := { name := "circuitFlat", fn := fun _ => fun
  | [d1, d2, d3] => { results := [.lit (.bool false)], args := [d1, d2, d3] }
  | _ => none }
def CircuitFlatWrongFalsely : Prop := circuitFlatRow.holds Try.pinned (OpenSpec.ofChange circuitFlatWrong)

/-- 'haruspexlaw03.FactorKnown': WHATEVER THE INPUT: true; the input reads as it did. -/
def factorKnownSpec : ChangeSpec := { name := "factorKnown", fn := fun _ => fun
  | [] => { results := [.lit (.bool true)], args := [] }
  | _ => none }
def factorKnownRow : OpenClaim := { program := "ytbjogdohfhdaiaa", sum := "fdac25834697f857bd2e4edfa0260d67d2d0f71ef85c7488d629978247800b67", func := "haruspex/haruspexlaw03.FactorKnown", spec := "factorKnown", unfollowed := true, recurses := true, apart := false }
def FactorKnownSaid : Prop := factorKnownRow.holds Try.pinned (OpenSpec.ofChange factorKnownSpec)

/-- ITS FALSE NEIGHBOUR: 'it returns false'. Refute it at one input. -/
def factorKnownWrong : ChangeSpec := { name := "factorKnown", fn := fun _ => fun
  | [] => { results := [.lit (.bool false)], args := [] }
  | _ => none }
def FactorKnownWrongFalsely : Prop := factorKnownRow.holds Try.pinned (OpenSpec.ofChange factorKnownWrong)

/-- 'haruspexlaw09.EliminateKnown': WHATEVER THE INPUT: true; the input reads as it did. -/
def eliminateKnownSpec : ChangeSpec := { name := "eliminateKnown", fn := fun _ => fun
  | [] => { results := [.lit (.bool true)], args := [] }
  | _ => none }
def eliminateKnownRow : OpenClaim := { program := "ytbjogdohfhdaiaa", sum := "fdac25834697f857bd2e4edfa0260d67d2d0f71ef85c7488d629978247800b67", func := "haruspex/haruspexlaw09.EliminateKnown", spec := "eliminateKnown", inPlace := ["slices.overlaps[int]"], unfollowed := true, recurses := true, apart := false }
def EliminateKnownSaid : Prop := eliminateKnownRow.holds Try.pinned (OpenSpec.ofChange eliminateKnownSpec)

/-- ITS FALSE NEIGHBOUR: 'it returns false'. Refute it at one input. -/
def eliminateKnownWrong : ChangeSpec := { name := "eliminateKnown", fn := fun _ => fun
  | [] => { results := [.lit (.bool false)], args := [] }
  | _ => none }
def EliminateKnownWrongFalsely : Prop := eliminateKnownRow.holds Try.pinned (OpenSpec.ofChange eliminateKnownWrong)

/- THE SECOND FORM. 'bulk': how many values and letters a reading holds, each counted each time it is reached (what is shared counts as often as it is met; a slice's spare places count too). A statement '..UptoSaid' is the law's where the arguments, and the package variables that the reading takes, are together of bulk at most 1048576: NARROWER than '..Said'. Prove '..Said' where nothing that the law and all that it calls make is longer than what came in: it says more and counts as full. Else prove '..UptoSaid'. A law counts once. -/
mutual
def uptoBulk {H : Type} : DataW H → Nat
  | .lit (.string bytes) => bytes.length + 1
  | .lit _ => 1
  | .nil => 1
  | .ptr d => uptoBulk d + 1
  | .slice elems spare => uptoBulkAll elems + uptoBulkAll spare + 1
  | .agg parts => uptoBulkAll parts + 1
  | .iface _ d => uptoBulk d + 1
  | .map entries => uptoBulkEntries entries + 1
  | .held _ => 1
def uptoBulkAll {H : Type} : List (DataW H) → Nat
  | [] => 0
  | d :: r => uptoBulk d + uptoBulkAll r
def uptoBulkEntries {H : Type} : List (Lit × DataW H) → Nat
  | [] => 0
  | x :: r => uptoBulkEntry x + uptoBulkEntries r
def uptoBulkEntry {H : Type} : Lit × DataW H → Nat
  | (.string bytes, d) => bytes.length + uptoBulk d + 1
  | (_, d) => uptoBulk d + 1
 end
def uptoSmall : (H : Type) → List (DataW H) → Bool := fun _ ds => decide (uptoBulkAll ds ≤ 1048576)
def OpenSpec.upto (s : _root_.Go.ChangeSpec) : _root_.Go.OpenSpec := { _root_.Go.OpenSpec.ofChange s with cond := some uptoSmall }

/-- 'haruspexlaw15.CircuitChecks', WHERE WHAT IT READS IS OF BULK AT MOST 1048576: true; the input reads as it did. -/
def circuitChecksUptoRow : OpenClaim := { program := "ytbjogdohfhdaiaa", sum := "fdac25834697f857bd2e4edfa0260d67d2d0f71ef85c7488d629978247800b67", func := "haruspex/haruspexlaw15.CircuitChecks", spec := "circuitChecks", unfollowed := true, recurses := true, apart := false, narrowed := true }
def CircuitChecksUptoSaid : Prop := circuitChecksUptoRow.holds Try.pinned (OpenSpec.upto circuitChecksSpec)

/-- 'haruspexlaw15.CircuitAdds', WHERE WHAT IT READS IS OF BULK AT MOST 1048576: true; the input reads as it did. -/
def circuitAddsUptoRow : OpenClaim := { program := "ytbjogdohfhdaiaa", sum := "fdac25834697f857bd2e4edfa0260d67d2d0f71ef85c7488d629978247800b67", func := "haruspex/haruspexlaw15.CircuitAdds", spec := "circuitAdds", unfollowed := true, recurses := true, apart := false, narrowed := true }
def CircuitAddsUptoSaid : Prop := circuitAddsUptoRow.holds Try.pinned (OpenSpec.upto circuitAddsSpec)

/-- 'haruspexlaw15.CircuitFlat', WHERE WHAT IT READS IS OF BULK AT MOST 1048576: true; the input reads as it did. -/
def circuitFlatUptoRow : OpenClaim := { program := "ytbjogdohfhdaiaa", sum := "fdac25834697f857bd2e4edfa0260d67d2d0f71ef85c7488d629978247800b67", func := "haruspex/haruspexlaw15.CircuitFlat", spec := "circuitFlat", unfollowed := true, recurses := true, apart := false, narrowed := true }
def CircuitFlatUptoSaid : Prop := circuitFlatUptoRow.holds Try.pinned (OpenSpec.upto circuitFlatSpec)

/-- 'haruspexlaw03.FactorKnown', WHERE WHAT IT READS IS OF BULK AT MOST 1048576: true; the input reads as it did. -/
def factorKnownUptoRow : OpenClaim := { program := "ytbjogdohfhdaiaa", sum := "fdac25834697f857bd2e4edfa0260d67d2d0f71ef85c7488d629978247800b67", func := "haruspex/haruspexlaw03.FactorKnown", spec := "factorKnown", unfollowed := true, recurses := true, apart := false, narrowed := true }
def FactorKnownUptoSaid : Prop := factorKnownUptoRow.holds Try.pinned (OpenSpec.upto factorKnownSpec)

/-- 'haruspexlaw09.EliminateKnown', WHERE WHAT IT READS IS OF BULK AT MOST 1048576: true; the input reads as it did. -/
def eliminateKnownUptoRow : OpenClaim := { program := "ytbjogdohfhdaiaa", sum := "fdac25834697f857bd2e4edfa0260d67d2d0f71ef85c7488d629978247800b67", func := "haruspex/haruspexlaw09.EliminateKnown", spec := "eliminateKnown", inPlace := ["slices.overlaps[int]"], unfollowed := true, recurses := true, apart := false, narrowed := true }
def EliminateKnownUptoSaid : Prop := eliminateKnownUptoRow.holds Try.pinned (OpenSpec.upto eliminateKnownSpec)

end Rows
end Go.Proofs.Ytbjogdohfhdaiaa

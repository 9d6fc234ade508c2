/-
  No cell of these rows narrows 'for every input' (looked for: loops, veiled, ifaces, maps, wideKeys, modest, calm, conditions, laid).
  DERIVED. THE GIVEN ROWS OF THIS SEAT. 11 by the template 'for every input the law returns true; each argument reads behind the call as it read before'; 0 by the template 'total and deterministic' (their statements: YtnfgibomhkbcpaaTotals.lean).
  GIVEN WITH THE SEED: the statements are not yours to turn. If you find one false, say at which input.
  Laid BY PROGRAM, IN A SANDBOX (cutbox-rows.mjs): the forced cells as the released guide's own fill.sh prints them over the translation 2952c119532c5eeb… (all of the seat's roots in one cut). By AI agents, Wed Nov 11 2026. No macro, syntax, notation, axiom, sorry.
-/
import Derived.Test.YtnfgibomhkbcpaaChecked
import GoSem.Claim
import GoSem.ClaimJoined
import GoSem.ClaimMapViews
import Derived.JoinedTies
import Derived.KernelRfl
namespace Go.Proofs.Ytnfgibomhkbcpaa
/- THE CELL 'sum', in the pinned program and in every row, IS THE sha256 OF THE DUMP (.gsa) THAT YtnfgibomhkbcpaaProg.lean LOADS. Nothing in Lean hashes anything: it is a label: what it is worth is what the hold of that sum in a sandbox is worth. -/
noncomputable def Try.pinned : Pinned := { name := "ytnfgibomhkbcpaa", sum := "2952c119532c5eeb97f2358c144e8fc23537589851d09168122aed1e1c4208f9", checked := Try.checked }
namespace Rows
def none {H : Type} : Left H := { results := [], args := [] }

/-- 'haruspexlaw05.NetFactors': WHATEVER THE INPUT: true; the input reads as it did. -/
def netFactorsSpec : ChangeSpec := { name := "netFactors", fn := fun _ => fun
  | [d1, d2, d3] => { results := [.lit (.bool true)], args := [d1, d2, d3] }
  | _ => none }
def netFactorsRow : OpenClaim := { program := "ytnfgibomhkbcpaa", sum := "2952c119532c5eeb97f2358c144e8fc23537589851d09168122aed1e1c4208f9", func := "haruspex/haruspexlaw05.NetFactors", spec := "netFactors", inPlace := ["slices.overlaps[int]"], unfollowed := true, recurses := true, apart := false }
def NetFactorsSaid : Prop := netFactorsRow.holds Try.pinned (OpenSpec.ofChange netFactorsSpec)

/-- ITS FALSE NEIGHBOUR: 'it returns false'. Refute it at one input. -/
def netFactorsWrong : ChangeSpec := { name := "netFactors", fn := fun _ => fun
  | [d1, d2, d3] => { results := [.lit (.bool false)], args := [d1, d2, d3] }
  | _ => none }
def NetFactorsWrongFalsely : Prop := netFactorsRow.holds Try.pinned (OpenSpec.ofChange netFactorsWrong)

/-- 'haruspexlaw03.FactorProducts': WHATEVER THE INPUT: true; the input reads as it did. -/
def factorProductsSpec : ChangeSpec := { name := "factorProducts", fn := fun _ => fun
  | [d1, d2, d3, d4] => { results := [.lit (.bool true)], args := [d1, d2, d3, d4] }
  | _ => none }
def factorProductsRow : OpenClaim := { program := "ytnfgibomhkbcpaa", sum := "2952c119532c5eeb97f2358c144e8fc23537589851d09168122aed1e1c4208f9", func := "haruspex/haruspexlaw03.FactorProducts", spec := "factorProducts", unfollowed := true, recurses := true, apart := false }
def FactorProductsSaid : Prop := factorProductsRow.holds Try.pinned (OpenSpec.ofChange factorProductsSpec)

/-- ITS FALSE NEIGHBOUR: 'it returns false'. Refute it at one input. -/
def factorProductsWrong : ChangeSpec := { name := "factorProducts", fn := fun _ => fun
  | [d1, d2, d3, d4] => { results := [.lit (.bool false)], args := [d1, d2, d3, d4] }
  | _ => none }
def FactorProductsWrongFalsely : Prop := factorProductsRow.holds Try.pinned (OpenSpec.ofChange factorProductsWrong)

/-- 'haruspexlaw03.FactorRemoves': WHATEVER THE INPUT: true; the input reads as it did. -/
def factorRemovesSpec : ChangeSpec := { name := "factorRemoves", fn := fun _ => fun
  | [d1, d2, d3, d4, d5] => { results := [.lit (.bool true)], args := [d1, d2, d3, d4, d5] }
  | _ => none }
def factorRemovesRow : OpenClaim := { program := "ytnfgibomhkbcpaa", sum := "2952c119532c5eeb97f2358c144e8fc23537589851d09168122aed1e1c4208f9", func := "haruspex/haruspexlaw03.FactorRemoves", spec := "factorRemoves", unfollowed := true, recurses := true, apart := false }
def FactorRemovesSaid : Prop := factorRemovesRow.holds Try.pinned (OpenSpec.ofChange factorRemovesSpec)

/-- ITS FALSE NEIGHBOUR: 'it returns false'. Refute it at one input. -/
def factorRemovesWrong : ChangeSpec := { name := "factorRemoves", fn := fun _ => fun
  | [d1, d2, d3, d4, d5] => { results := [.lit (.bool false)], args := [d1, d2, d3, d4, d5] }
  | _ => none }
def FactorRemovesWrongFalsely : Prop := factorRemovesRow.holds Try.pinned (OpenSpec.ofChange factorRemovesWrong)

/-- 'haruspexlaw03.FactorKeeps': WHATEVER THE INPUT: true; the input reads as it did. -/
def factorKeepsSpec : ChangeSpec := { name := "factorKeeps", fn := fun _ => fun
  | [d1, d2, d3, d4] => { results := [.lit (.bool true)], args := [d1, d2, d3, d4] }
  | _ => none }
def factorKeepsRow : OpenClaim := { program := "ytnfgibomhkbcpaa", sum := "2952c119532c5eeb97f2358c144e8fc23537589851d09168122aed1e1c4208f9", func := "haruspex/haruspexlaw03.FactorKeeps", spec := "factorKeeps", unfollowed := true, recurses := true, apart := false }
def FactorKeepsSaid : Prop := factorKeepsRow.holds Try.pinned (OpenSpec.ofChange factorKeepsSpec)

/-- ITS FALSE NEIGHBOUR: 'it returns false'. Refute it at one input. -/
def factorKeepsWrong : ChangeSpec := { name := "factorKeeps", fn := fun _ => fun
  | [d1, d2, d3, d4] => { results := [.lit (.bool false)], args := [d1, d2, d3, d4] }
  | _ => none }
def FactorKeepsWrongFalsely : Prop := factorKeepsRow.holds Try.pinned (OpenSpec.ofChange factorKeepsWrong)

/-- 'haruspexlaw03.FactorRing': WHATEVER THE INPUT: true; the input reads as it did. -/
def factorRingSpec : ChangeSpec := { name := "factorRing", fn := fun _ => fun
  | [d1, d2, d3] => { results := [.lit (.bool true)], args := [d1, d2, d3] }
  | _ => none }
def factorRingRow : OpenClaim := { program := "ytnfgibomhkbcpaa", sum := "2952c119532c5eeb97f2358c144e8fc23537589851d09168122aed1e1c4208f9", func := "haruspex/haruspexlaw03.FactorRing", spec := "factorRing", unfollowed := true, recurses := true, apart := false }
def FactorRingSaid : Prop := factorRingRow.holds Try.pinned (OpenSpec.ofChange factorRingSpec)

/-- ITS FALSE NEIGHBOUR: 'it returns false'. Refute it at one input. -/
def factorRingWrong : ChangeSpec := { name := "factorRing", fn := fun _ => fun
  | [d1, d2, d3] => { results := [.lit (.bool false)], args := [d1, d2, d3] }
  | _ => none }
def FactorRingWrongFalsely : Prop := factorRingRow.holds Try.pinned (OpenSpec.ofChange factorRingWrong)

/-- 'haruspexlaw03.FactorSwaps': WHATEVER THE INPUT: true; the input reads as it did. -/
def factorSwapsSpec : ChangeSpec := { name := "factorSwaps", fn := fun _ => fun
  | [d1, d2] => { results := [.lit (.bool true)], args := [d1, d2] }
  | _ => none }
def factorSwapsRow : OpenClaim := { program := "ytnfgibomhkbcpaa", sum := "2952c119532c5eeb97f2358c144e8fc23537589851d09168122aed1e1c4208f9", func := "haruspex/haruspexlaw03.FactorSwaps", spec := "factorSwaps", unfollowed := true, recurses := true, apart := false }
def FactorSwapsSaid : Prop := factorSwapsRow.holds Try.pinned (OpenSpec.ofChange factorSwapsSpec)

/-- ITS FALSE NEIGHBOUR: 'it returns false'. Refute it at one input. -/
def factorSwapsWrong : ChangeSpec := { name := "factorSwaps", fn := fun _ => fun
  | [d1, d2] => { results := [.lit (.bool false)], args := [d1, d2] }
  | _ => none }
def FactorSwapsWrongFalsely : Prop := factorSwapsRow.holds Try.pinned (OpenSpec.ofChange factorSwapsWrong)

/-- 'haruspexlaw03.FactorPulls': WHATEVER THE INPUT: true; the input reads as it did. -/
def factorPullsSpec : ChangeSpec := { name := "factorPulls", fn := fun _ => fun
  | [d1, d2, d3] => { results := [.lit (.bool true)], args := [d1, d2, d3] }
  | _ => none }
def factorPullsRow : OpenClaim := { program := "ytnfgibomhkbcpaa", sum := "2952c119532c5eeb97f2358c144e8fc23537589851d09168122aed1e1c4208f9", func := "haruspex/haruspexlaw03.FactorPulls", spec := "factorPulls", unfollowed := true, recurses := true, apart := false }
def FactorPullsSaid : Prop := factorPullsRow.holds Try.pinned (OpenSpec.ofChange factorPullsSpec)

/-- ITS FALSE NEIGHBOUR: 'it returns false'. Refute it at one input. -/
def factorPullsWrong : ChangeSpec := { name := "factorPulls", fn := fun _ => fun
  | [d1, d2, d3] => { results := [.lit (.bool false)], args := [d1, d2, d3] }
  | _ => none }
def FactorPullsWrongFalsely : Prop := factorPullsRow.holds Try.pinned (OpenSpec.ofChange factorPullsWrong)

/-- 'haruspexlaw03.FactorUndoes': WHATEVER THE INPUT: true; the input reads as it did. -/
def factorUndoesSpec : ChangeSpec := { name := "factorUndoes", fn := fun _ => fun
  | [d1, d2] => { results := [.lit (.bool true)], args := [d1, d2] }
  | _ => none }
def factorUndoesRow : OpenClaim := { program := "ytnfgibomhkbcpaa", sum := "2952c119532c5eeb97f2358c144e8fc23537589851d09168122aed1e1c4208f9", func := "haruspex/haruspexlaw03.FactorUndoes", spec := "factorUndoes", unfollowed := true, recurses := true, apart := false }
def FactorUndoesSaid : Prop := factorUndoesRow.holds Try.pinned (OpenSpec.ofChange factorUndoesSpec)

/-- ITS FALSE NEIGHBOUR: 'it returns false'. Refute it at one input. -/
def factorUndoesWrong : ChangeSpec := { name := "factorUndoes", fn := fun _ => fun
  | [d1, d2] => { results := [.lit (.bool false)], args := [d1, d2] }
  | _ => none }
def FactorUndoesWrongFalsely : Prop := factorUndoesRow.holds Try.pinned (OpenSpec.ofChange factorUndoesWrong)

/-- 'haruspexlaw03.FactorKnown': WHATEVER THE INPUT: true; the input reads as it did. -/
def factorKnownSpec : ChangeSpec := { name := "factorKnown", fn := fun _ => fun
  | [] => { results := [.lit (.bool true)], args := [] }
  | _ => none }
def factorKnownRow : OpenClaim := { program := "ytnfgibomhkbcpaa", sum := "2952c119532c5eeb97f2358c144e8fc23537589851d09168122aed1e1c4208f9", func := "haruspex/haruspexlaw03.FactorKnown", spec := "factorKnown", unfollowed := true, recurses := true, apart := false }
def FactorKnownSaid : Prop := factorKnownRow.holds Try.pinned (OpenSpec.ofChange factorKnownSpec)

/-- ITS FALSE NEIGHBOUR: 'it returns false'. Refute it at one input. -/
def factorKnownWrong : ChangeSpec := { name := "factorKnown", fn := fun _ => fun
  | [] => { results := [.lit (.bool false)], args := [] }
  | _ => none }
def FactorKnownWrongFalsely : Prop := factorKnownRow.holds Try.pinned (OpenSpec.ofChange factorKnownWrong)

/-- 'haruspexlaw05.NetRows': WHATEVER THE INPUT: true; the input reads as it did. -/
def netRowsSpec : ChangeSpec := { name := "netRows", fn := fun _ => fun
  | [d] => { results := [.lit (.bool true)], args := [d] }
  | _ => none }
def netRowsRow : OpenClaim := { program := "ytnfgibomhkbcpaa", sum := "2952c119532c5eeb97f2358c144e8fc23537589851d09168122aed1e1c4208f9", func := "haruspex/haruspexlaw05.NetRows", spec := "netRows", inPlace := ["slices.overlaps[int]"], unfollowed := true, recurses := true, apart := false }
def NetRowsSaid : Prop := netRowsRow.holds Try.pinned (OpenSpec.ofChange netRowsSpec)

/-- ITS FALSE NEIGHBOUR: 'it returns false'. Refute it at one input. -/
def netRowsWrong : ChangeSpec := { name := "netRows", fn := fun _ => fun
  | [d] => { results := [.lit (.bool false)], args := [d] }
  | _ => none }
def NetRowsWrongFalsely : Prop := netRowsRow.holds Try.pinned (OpenSpec.ofChange netRowsWrong)

/-- 'haruspexlaw05.NetTotals': WHATEVER THE INPUT: true; the input reads as it did. -/
def netTotalsSpec : ChangeSpec := { name := "netTotals", fn := fun _ => fun
  | [d] => { results := [.lit (.bool true)], args := [d] }
  | _ => none }
def netTotalsRow : OpenClaim := { program := "ytnfgibomhkbcpaa", sum := "2952c119532c5eeb97f2358c144e8fc23537589851d09168122aed1e1c4208f9", func := "haruspex/haruspexlaw05.NetTotals", spec := "netTotals", inPlace := ["slices.overlaps[int]"], unfollowed := true, recurses := true, apart := false }
def NetTotalsSaid : Prop := netTotalsRow.holds Try.pinned (OpenSpec.ofChange netTotalsSpec)

/-- ITS FALSE NEIGHBOUR: 'it returns false'. Refute it at one input. -/
def netTotalsWrong : ChangeSpec := { name := "netTotals", fn := fun _ => fun
  | [d] => { results := [.lit (.bool false)], args := [d] }
  | _ => none }
def NetTotalsWrongFalsely : Prop := netTotalsRow.holds Try.pinned (OpenSpec.ofChange netTotalsWrong)

/- THE SECOND FORM. 'bulk': how many values and letters a reading holds, each counted each time it is reached (what is shared counts as often as it is met; a slice's spare places count too). A statement '..UptoSaid' is the law's where the arguments, and the package variables that the reading takes, are together of bulk at most 1048576: NARROWER than '..Said'. Prove '..Said' where nothing that the law and all that it calls make is longer than what came in: it says more and counts as full. Else prove '..UptoSaid'. A law counts once. -/
mutual
def uptoBulk {H : Type} : DataW H → Nat
  | .lit (.string bytes) => bytes.length + 1
  | .lit _ => 1
  | .nil => 1
  | .ptr d => uptoBulk d + 1
  | .slice elems spare => uptoBulkAll elems + uptoBulkAll spare + 1
  | .agg parts => uptoBulkAll parts + 1
  | .iface _ d => uptoBulk d + 1
  | .map entries => uptoBulkEntries entries + 1
  | .held _ => 1
def uptoBulkAll {H : Type} : List (DataW H) → Nat
  | [] => 0
  | d :: r => uptoBulk d + uptoBulkAll r
def uptoBulkEntries {H : Type} : List (Lit × DataW H) → Nat
  | [] => 0
  | x :: r => uptoBulkEntry x + uptoBulkEntries r
def uptoBulkEntry {H : Type} : Lit × DataW H → Nat
  | (.string bytes, d) => bytes.length + uptoBulk d + 1
  | (_, d) => uptoBulk d + 1
 end
def uptoSmall : (H : Type) → List (DataW H) → Bool := fun _ ds => decide (uptoBulkAll ds ≤ 1048576)
def OpenSpec.upto (s : _root_.Go.ChangeSpec) : _root_.Go.OpenSpec := { _root_.Go.OpenSpec.ofChange s with cond := some uptoSmall }

/-- 'haruspexlaw05.NetFactors', WHERE WHAT IT READS IS OF BULK AT MOST 1048576: true; the input reads as it did. -/
def netFactorsUptoRow : OpenClaim := { program := "ytnfgibomhkbcpaa", sum := "2952c119532c5eeb97f2358c144e8fc23537589851d09168122aed1e1c4208f9", func := "haruspex/haruspexlaw05.NetFactors", spec := "netFactors", inPlace := ["slices.overlaps[int]"], unfollowed := true, recurses := true, apart := false, narrowed := true }
def NetFactorsUptoSaid : Prop := netFactorsUptoRow.holds Try.pinned (OpenSpec.upto netFactorsSpec)

/-- 'haruspexlaw03.FactorProducts', WHERE WHAT IT READS IS OF BULK AT MOST 1048576: true; the input reads as it did. -/
def factorProductsUptoRow : OpenClaim := { program := "ytnfgibomhkbcpaa", sum := "2952c119532c5eeb97f2358c144e8fc23537589851d09168122aed1e1c4208f9", func := "haruspex/haruspexlaw03.FactorProducts", spec := "factorProducts", unfollowed := true, recurses := true, apart := false, narrowed := true }
def FactorProductsUptoSaid : Prop := factorProductsUptoRow.holds Try.pinned (OpenSpec.upto factorProductsSpec)

/-- 'haruspexlaw03.FactorRemoves', WHERE WHAT IT READS IS OF BULK AT MOST 1048576: true; the input reads as it did. -/
def factorRemovesUptoRow : OpenClaim := { program := "ytnfgibomhkbcpaa", sum := "2952c119532c5eeb97f2358c144e8fc23537589851d09168122aed1e1c4208f9", func := "haruspex/haruspexlaw03.FactorRemoves", spec := "factorRemoves", unfollowed := true, recurses := true, apart := false, narrowed := true }
def FactorRemovesUptoSaid : Prop := factorRemovesUptoRow.holds Try.pinned (OpenSpec.upto factorRemovesSpec)

/-- 'haruspexlaw03.FactorKeeps', WHERE WHAT IT READS IS OF BULK AT MOST 1048576: true; the input reads as it did. -/
def factorKeepsUptoRow : OpenClaim := { program := "ytnfgibomhkbcpaa", sum := "2952c119532c5eeb97f2358c144e8fc23537589851d09168122aed1e1c4208f9", func := "haruspex/haruspexlaw03.FactorKeeps", spec := "factorKeeps", unfollowed := true, recurses := true, apart := false, narrowed := true }
def FactorKeepsUptoSaid : Prop := factorKeepsUptoRow.holds Try.pinned (OpenSpec.upto factorKeepsSpec)

/-- 'haruspexlaw03.FactorRing', WHERE WHAT IT READS IS OF BULK AT MOST 1048576: true; the input reads as it did. -/
def factorRingUptoRow : OpenClaim := { program := "ytnfgibomhkbcpaa", sum := "2952c119532c5eeb97f2358c144e8fc23537589851d09168122aed1e1c4208f9", func := "haruspex/haruspexlaw03.FactorRing", spec := "factorRing", unfollowed := true, recurses := true, apart := false, narrowed := true }
def FactorRingUptoSaid : Prop := factorRingUptoRow.holds Try.pinned (OpenSpec.upto factorRingSpec)

/-- 'haruspexlaw03.FactorSwaps', WHERE WHAT IT READS IS OF BULK AT MOST 1048576: true; the input reads as it did. -/
def factorSwapsUptoRow : OpenClaim := { program := "ytnfgibomhkbcpaa", sum := "2952c119532c5eeb97f2358c144e8fc23537589851d09168122aed1e1c4208f9", func := "haruspex/haruspexlaw03.FactorSwaps", spec := "factorSwaps", unfollowed := true, recurses := true, apart := false, narrowed := true }
def FactorSwapsUptoSaid : Prop := factorSwapsUptoRow.holds Try.pinned (OpenSpec.upto factorSwapsSpec)

/-- 'haruspexlaw03.FactorPulls', WHERE WHAT IT READS IS OF BULK AT MOST 1048576: true; the input reads as it did. -/
def factorPullsUptoRow : OpenClaim := { program := "ytnfgibomhkbcpaa", sum := "2952c119532c5eeb97f2358c144e8fc23537589851d09168122aed1e1c4208f9", func := "haruspex/haruspexlaw03.FactorPulls", spec := "factorPulls", unfollowed := true, recurses := true, apart := false, narrowed := true }
def FactorPullsUptoSaid : Prop := factorPullsUptoRow.holds Try.pinned (OpenSpec.upto factorPullsSpec)

/-- 'haruspexlaw03.FactorUndoes', WHERE WHAT IT READS IS OF BULK AT MOST 1048576: true; the input reads as it did. -/
def factorUndoesUptoRow : OpenClaim := { program := "ytnfgibomhkbcpaa", sum := "2952c119532c5eeb97f2358c144e8fc23537589851d09168122aed1e1c4208f9", func := "haruspex/haruspexlaw03.FactorUndoes", spec := "factorUndoes", unfollowed := true, recurses := true, apart := false, narrowed := true }
def FactorUndoesUptoSaid : Prop := factorUndoesUptoRow.holds Try.pinned (OpenSpec.upto factorUndoesSpec)

/-- 'haruspexlaw03.FactorKnown', WHERE WHAT IT READS IS OF BULK AT MOST 1048576: true; the input reads as it did. -/
def factorKnownUptoRow : OpenClaim := { program := "ytnfgibomhkbcpaa", sum := "2952c119532c5eeb97f2358c144e8fc23537589851d09168122aed1e1c4208f9", func := "haruspex/haruspexlaw03.FactorKnown", spec := "factorKnown", unfollowed := true, recurses := true, apart := false, narrowed := true }
def FactorKnownUptoSaid : Prop := factorKnownUptoRow.holds Try.pinned (OpenSpec.upto factorKnownSpec)

/-- 'haruspexlaw05.NetRows', WHERE WHAT IT READS IS OF BULK AT MOST 1048576: true; the input reads as it did. -/
def netRowsUptoRow : OpenClaim := { program := "ytnfgibomhkbcpaa", sum := "2952c119532c5eeb97f2358c144e8fc23537589851d09168122aed1e1c4208f9", func := "haruspex/haruspexlaw05.NetRows", spec := "netRows", inPlace := ["slices.overlaps[int]"], unfollowed := true, recurses := true, apart := false, narrowed := true }
def NetRowsUptoSaid : Prop := netRowsUptoRow.holds Try.pinned (OpenSpec.upto netRowsSpec)

/-- 'haruspexlaw05.NetTotals', WHERE WHAT IT READS IS OF BULK AT MOST 1048576: true; the input reads as it did. -/
def netTotalsUptoRow : OpenClaim := { program := "ytnfgibomhkbcpaa", sum := "2952c119532c5eeb97f2358c144e8fc23537589851d09168122aed1e1c4208f9", func := "haruspex/haruspexlaw05.NetTotals", spec := "netTotals", inPlace := ["slices.overlaps[int]"], unfollowed := true, recurses := true, apart := false, narrowed := true }
def NetTotalsUptoSaid : Prop := netTotalsUptoRow.holds Try.pinned (OpenSpec.upto netTotalsSpec)

end Rows
end Go.Proofs.Ytnfgibomhkbcpaa

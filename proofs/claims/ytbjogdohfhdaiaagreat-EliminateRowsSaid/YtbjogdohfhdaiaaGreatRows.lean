/-
  No cell of these rows narrows 'for every input' (looked for: loops, veiled, ifaces, maps, wideKeys, modest, calm, conditions, laid).
  DERIVED. THE GIVEN ROWS OF THIS SEAT. 7 by the template 'for every input the law returns true; each argument reads behind the call as it read before'; 0 by the template 'total and deterministic' (their statements: YtbjogdohfhdaiaaGreatTotals.lean).
  GIVEN WITH THE SEED: the statements are not yours to turn. If you find one false, say at which input.
  Laid BY PROGRAM, IN A SANDBOX (cutbox-rows.mjs): the forced cells as the released guide's own fill.sh prints them over the translation 184e5fd31d5e425a… (all of the seat's roots in one cut). By AI agents, Wed Nov 11 2026. No macro, syntax, notation, axiom, sorry.
-/
import Derived.Test.YtbjogdohfhdaiaaGreatChecked
import GoSem.Claim
import GoSem.ClaimJoined
import GoSem.ClaimMapViews
import Derived.JoinedTies
import Derived.KernelRfl
namespace Go.Proofs.YtbjogdohfhdaiaaGreat
/- THE CELL 'sum', in the pinned program and in every row, IS THE sha256 OF THE DUMP (.gsa) THAT YtbjogdohfhdaiaaGreatProg.lean LOADS. Nothing in Lean hashes anything: it is a label: what it is worth is what the hold of that sum in a sandbox is worth. -/
noncomputable def Tryz.pinned : Pinned := { name := "ytbjogdohfhdaiaagreat", sum := "184e5fd31d5e425adb8608f846766e1974e241d309425121d959a21638cdb45e", checked := Tryz.checked }
namespace Rows
def none {H : Type} : Left H := { results := [], args := [] }

/-- 'haruspexlaw09.EliminateFinds': WHATEVER THE INPUT: true; the input reads as it did. -/
def eliminateFindsSpec : ChangeSpec := { name := "eliminateFinds", fn := fun _ => fun
  | [d1, d2, d3] => { results := [.lit (.bool true)], args := [d1, d2, d3] }
  | _ => none }
def eliminateFindsRow : OpenClaim := { program := "ytbjogdohfhdaiaagreat", sum := "184e5fd31d5e425adb8608f846766e1974e241d309425121d959a21638cdb45e", func := "haruspex/haruspexlaw09.EliminateFinds", spec := "eliminateFinds", inPlace := ["slices.overlaps[int]"], unfollowed := true, recurses := true, plainKeys := false, apart := false }
def EliminateFindsSaid : Prop := eliminateFindsRow.holds Tryz.pinned (OpenSpec.ofChange eliminateFindsSpec)

/-- ITS FALSE NEIGHBOUR: 'it returns false'. Refute it at one input. -/
def eliminateFindsWrong : ChangeSpec := { name := "eliminateFinds", fn := fun _ => fun
  | [d1, d2, d3] => { results := [.lit (.bool false)], args := [d1, d2, d3] }
  | _ => none }
def EliminateFindsWrongFalsely : Prop := eliminateFindsRow.holds Tryz.pinned (OpenSpec.ofChange eliminateFindsWrong)

/-- 'haruspexlaw09.EliminateCosts': WHATEVER THE INPUT: true; the input reads as it did. -/
def eliminateCostsSpec : ChangeSpec := { name := "eliminateCosts", fn := fun _ => fun
  | [d1, d2, d3] => { results := [.lit (.bool true)], args := [d1, d2, d3] }
  | _ => none }
def eliminateCostsRow : OpenClaim := { program := "ytbjogdohfhdaiaagreat", sum := "184e5fd31d5e425adb8608f846766e1974e241d309425121d959a21638cdb45e", func := "haruspex/haruspexlaw09.EliminateCosts", spec := "eliminateCosts", inPlace := ["slices.overlaps[int]"], unfollowed := true, recurses := true, plainKeys := false, apart := false }
def EliminateCostsSaid : Prop := eliminateCostsRow.holds Tryz.pinned (OpenSpec.ofChange eliminateCostsSpec)

/-- ITS FALSE NEIGHBOUR: 'it returns false'. Refute it at one input. -/
def eliminateCostsWrong : ChangeSpec := { name := "eliminateCosts", fn := fun _ => fun
  | [d1, d2, d3] => { results := [.lit (.bool false)], args := [d1, d2, d3] }
  | _ => none }
def EliminateCostsWrongFalsely : Prop := eliminateCostsRow.holds Tryz.pinned (OpenSpec.ofChange eliminateCostsWrong)

/-- 'haruspexlaw09.EliminateNeeds': WHATEVER THE INPUT: true; the input reads as it did. -/
def eliminateNeedsSpec : ChangeSpec := { name := "eliminateNeeds", fn := fun _ => fun
  | [d1, d2, d3] => { results := [.lit (.bool true)], args := [d1, d2, d3] }
  | _ => none }
def eliminateNeedsRow : OpenClaim := { program := "ytbjogdohfhdaiaagreat", sum := "184e5fd31d5e425adb8608f846766e1974e241d309425121d959a21638cdb45e", func := "haruspex/haruspexlaw09.EliminateNeeds", spec := "eliminateNeeds", inPlace := ["slices.overlaps[int]"], unfollowed := true, recurses := true, plainKeys := false, apart := false }
def EliminateNeedsSaid : Prop := eliminateNeedsRow.holds Tryz.pinned (OpenSpec.ofChange eliminateNeedsSpec)

/-- ITS FALSE NEIGHBOUR: 'it returns false'. Refute it at one input. -/
def eliminateNeedsWrong : ChangeSpec := { name := "eliminateNeeds", fn := fun _ => fun
  | [d1, d2, d3] => { results := [.lit (.bool false)], args := [d1, d2, d3] }
  | _ => none }
def EliminateNeedsWrongFalsely : Prop := eliminateNeedsRow.holds Tryz.pinned (OpenSpec.ofChange eliminateNeedsWrong)

/-- 'haruspexlaw09.EliminateTables': WHATEVER THE INPUT: true; the input reads as it did. -/
def eliminateTablesSpec : ChangeSpec := { name := "eliminateTables", fn := fun _ => fun
  | [d1, d2] => { results := [.lit (.bool true)], args := [d1, d2] }
  | _ => none }
def eliminateTablesRow : OpenClaim := { program := "ytbjogdohfhdaiaagreat", sum := "184e5fd31d5e425adb8608f846766e1974e241d309425121d959a21638cdb45e", func := "haruspex/haruspexlaw09.EliminateTables", spec := "eliminateTables", inPlace := ["slices.overlaps[int]"], unfollowed := true, recurses := true, plainKeys := false, apart := false }
def EliminateTablesSaid : Prop := eliminateTablesRow.holds Tryz.pinned (OpenSpec.ofChange eliminateTablesSpec)

/-- ITS FALSE NEIGHBOUR: 'it returns false'. Refute it at one input. -/
def eliminateTablesWrong : ChangeSpec := { name := "eliminateTables", fn := fun _ => fun
  | [d1, d2] => { results := [.lit (.bool false)], args := [d1, d2] }
  | _ => none }
def EliminateTablesWrongFalsely : Prop := eliminateTablesRow.holds Tryz.pinned (OpenSpec.ofChange eliminateTablesWrong)

/-- 'haruspexlaw09.EliminateRows': WHATEVER THE INPUT: true; the input reads as it did. -/
def eliminateRowsSpec : ChangeSpec := { name := "eliminateRows", fn := fun _ => fun
  | [d1, d2, d3] => { results := [.lit (.bool true)], args := [d1, d2, d3] }
  | _ => none }
def eliminateRowsRow : OpenClaim := { program := "ytbjogdohfhdaiaagreat", sum := "184e5fd31d5e425adb8608f846766e1974e241d309425121d959a21638cdb45e", func := "haruspex/haruspexlaw09.EliminateRows", spec := "eliminateRows", inPlace := ["slices.overlaps[int]"], unfollowed := true, recurses := true, plainKeys := false, apart := false }
def EliminateRowsSaid : Prop := eliminateRowsRow.holds Tryz.pinned (OpenSpec.ofChange eliminateRowsSpec)

/-- ITS FALSE NEIGHBOUR: 'it returns false'. Refute it at one input. -/
def eliminateRowsWrong : ChangeSpec := { name := "eliminateRows", fn := fun _ => fun
  | [d1, d2, d3] => { results := [.lit (.bool false)], args := [d1, d2, d3] }
  | _ => none }
def EliminateRowsWrongFalsely : Prop := eliminateRowsRow.holds Tryz.pinned (OpenSpec.ofChange eliminateRowsWrong)

/-- 'haruspexlaw09.EliminateSets': WHATEVER THE INPUT: true; the input reads as it did. -/
def eliminateSetsSpec : ChangeSpec := { name := "eliminateSets", fn := fun _ => fun
  | [d1, d2] => { results := [.lit (.bool true)], args := [d1, d2] }
  | _ => none }
def eliminateSetsRow : OpenClaim := { program := "ytbjogdohfhdaiaagreat", sum := "184e5fd31d5e425adb8608f846766e1974e241d309425121d959a21638cdb45e", func := "haruspex/haruspexlaw09.EliminateSets", spec := "eliminateSets", inPlace := ["slices.overlaps[int]"], unfollowed := true, recurses := true, plainKeys := false, apart := false }
def EliminateSetsSaid : Prop := eliminateSetsRow.holds Tryz.pinned (OpenSpec.ofChange eliminateSetsSpec)

/-- ITS FALSE NEIGHBOUR: 'it returns false'. Refute it at one input. -/
def eliminateSetsWrong : ChangeSpec := { name := "eliminateSets", fn := fun _ => fun
  | [d1, d2] => { results := [.lit (.bool false)], args := [d1, d2] }
  | _ => none }
def EliminateSetsWrongFalsely : Prop := eliminateSetsRow.holds Tryz.pinned (OpenSpec.ofChange eliminateSetsWrong)

/-- 'haruspexlaw09.EliminateAgrees': WHATEVER THE INPUT: true; the input reads as it did. -/
def eliminateAgreesSpec : ChangeSpec := { name := "eliminateAgrees", fn := fun _ => fun
  | [d1, d2, d3] => { results := [.lit (.bool true)], args := [d1, d2, d3] }
  | _ => none }
def eliminateAgreesRow : OpenClaim := { program := "ytbjogdohfhdaiaagreat", sum := "184e5fd31d5e425adb8608f846766e1974e241d309425121d959a21638cdb45e", func := "haruspex/haruspexlaw09.EliminateAgrees", spec := "eliminateAgrees", inPlace := ["slices.overlaps[int]"], unfollowed := true, recurses := true, plainKeys := false, apart := false }
def EliminateAgreesSaid : Prop := eliminateAgreesRow.holds Tryz.pinned (OpenSpec.ofChange eliminateAgreesSpec)

/-- ITS FALSE NEIGHBOUR: 'it returns false'. Refute it at one input. -/
def eliminateAgreesWrong : ChangeSpec := { name := "eliminateAgrees", fn := fun _ => fun
  | [d1, d2, d3] => { results := [.lit (.bool false)], args := [d1, d2, d3] }
  | _ => none }
def EliminateAgreesWrongFalsely : Prop := eliminateAgreesRow.holds Tryz.pinned (OpenSpec.ofChange eliminateAgreesWrong)

/- THE SECOND FORM. 'bulk': how many values and letters a reading holds, each counted each time it is reached (what is shared counts as often as it is met; a slice's spare places count too). A statement '..UptoSaid' is the law's where the arguments, and the package variables that the reading takes, are together of bulk at most 1048576: NARROWER than '..Said'. Prove '..Said' where nothing that the law and all that it calls make is longer than what came in: it says more and counts as full. Else prove '..UptoSaid'. A law counts once. -/
mutual
def uptoBulk {H : Type} : DataW H → Nat
  | .lit (.string bytes) => bytes.length + 1
  | .lit _ => 1
  | .nil => 1
  | .ptr d => uptoBulk d + 1
  | .slice elems spare => uptoBulkAll elems + uptoBulkAll spare + 1
  | .agg parts => uptoBulkAll parts + 1
  | .iface _ d => uptoBulk d + 1
  | .map entries => uptoBulkEntries entries + 1
  | .held _ => 1
def uptoBulkAll {H : Type} : List (DataW H) → Nat
  | [] => 0
  | d :: r => uptoBulk d + uptoBulkAll r
def uptoBulkEntries {H : Type} : List (Lit × DataW H) → Nat
  | [] => 0
  | x :: r => uptoBulkEntry x + uptoBulkEntries r
def uptoBulkEntry {H : Type} : Lit × DataW H → Nat
  | (.string bytes, d) => bytes.length + uptoBulk d + 1
  | (_, d) => uptoBulk d + 1
 end
def uptoSmall : (H : Type) → List (DataW H) → Bool := fun _ ds => decide (uptoBulkAll ds ≤ 1048576)
def OpenSpec.upto (s : _root_.Go.ChangeSpec) : _root_.Go.OpenSpec := { _root_.Go.OpenSpec.ofChange s with cond := some uptoSmall }

/-- 'haruspexlaw09.EliminateFinds', WHERE WHAT IT READS IS OF BULK AT MOST 1048576: true; the input reads as it did. -/
def eliminateFindsUptoRow : OpenClaim := { program := "ytbjogdohfhdaiaagreat", sum := "184e5fd31d5e425adb8608f846766e1974e241d309425121d959a21638cdb45e", func := "haruspex/haruspexlaw09.EliminateFinds", spec := "eliminateFinds", inPlace := ["slices.overlaps[int]"], unfollowed := true, recurses := true, plainKeys := false, apart := false, narrowed := true }
def EliminateFindsUptoSaid : Prop := eliminateFindsUptoRow.holds Tryz.pinned (OpenSpec.upto eliminateFindsSpec)

/-- 'haruspexlaw09.EliminateCosts', WHERE WHAT IT READS IS OF BULK AT MOST 1048576: true; the input reads as it did. -/
def eliminateCostsUptoRow : OpenClaim := { program := "ytbjogdohfhdaiaagreat", sum := "184e5fd31d5e425adb8608f846766e1974e241d309425121d959a21638cdb45e", func := "haruspex/haruspexlaw09.EliminateCosts", spec := "eliminateCosts", inPlace := ["slices.overlaps[int]"], unfollowed := true, recurses := true, plainKeys := false, apart := false, narrowed := true }
def EliminateCostsUptoSaid : Prop := eliminateCostsUptoRow.holds Tryz.pinned (OpenSpec.upto eliminateCostsSpec)

/-- 'haruspexlaw09.EliminateNeeds', WHERE WHAT IT READS IS OF BULK AT MOST 1048576: true; the input reads as it did. -/
def eliminateNeedsUptoRow : OpenClaim := { program := "ytbjogdohfhdaiaagreat", sum := "184e5fd31d5e425adb8608f846766e1974e241d309425121d959a21638cdb45e", func := "haruspex/haruspexlaw09.EliminateNeeds", spec := "eliminateNeeds", inPlace := ["slices.overlaps[int]"], unfollowed := true, recurses := true, plainKeys := false, apart := false, narrowed := true }
def EliminateNeedsUptoSaid : Prop := eliminateNeedsUptoRow.holds Tryz.pinned (OpenSpec.upto eliminateNeedsSpec)

/-- 'haruspexlaw09.EliminateTables', WHERE WHAT IT READS IS OF BULK AT MOST 1048576: true; the input reads as it did. -/
def eliminateTablesUptoRow : OpenClaim := { program := "ytbjogdohfhdaiaagreat", sum := "184e5fd31d5e425adb8608f846766e1974e241d309425121d959a21638cdb45e", func := "haruspex/haruspexlaw09.EliminateTables", spec := "eliminateTables", inPlace := ["slices.overlaps[int]"], unfollowed := true, recurses := true, plainKeys := false, apart := false, narrowed := true }
def EliminateTablesUptoSaid : Prop := eliminateTablesUptoRow.holds Tryz.pinned (OpenSpec.upto eliminateTablesSpec)

/-- 'haruspexlaw09.EliminateRows', WHERE WHAT IT READS IS OF BULK AT MOST 1048576: true; the input reads as it did. -/
def eliminateRowsUptoRow : OpenClaim := { program := "ytbjogdohfhdaiaagreat", sum := "184e5fd31d5e425adb8608f846766e1974e241d309425121d959a21638cdb45e", func := "haruspex/haruspexlaw09.EliminateRows", spec := "eliminateRows", inPlace := ["slices.overlaps[int]"], unfollowed := true, recurses := true, plainKeys := false, apart := false, narrowed := true }
def EliminateRowsUptoSaid : Prop := eliminateRowsUptoRow.holds Tryz.pinned (OpenSpec.upto eliminateRowsSpec)

/-- 'haruspexlaw09.EliminateSets', WHERE WHAT IT READS IS OF BULK AT MOST 1048576: true; the input reads as it did. -/
def eliminateSetsUptoRow : OpenClaim := { program := "ytbjogdohfhdaiaagreat", sum := "184e5fd31d5e425adb8608f846766e1974e241d309425121d959a21638cdb45e", func := "haruspex/haruspexlaw09.EliminateSets", spec := "eliminateSets", inPlace := ["slices.overlaps[int]"], unfollowed := true, recurses := true, plainKeys := false, apart := false, narrowed := true }
def EliminateSetsUptoSaid : Prop := eliminateSetsUptoRow.holds Tryz.pinned (OpenSpec.upto eliminateSetsSpec)

/-- 'haruspexlaw09.EliminateAgrees', WHERE WHAT IT READS IS OF BULK AT MOST 1048576: true; the input reads as it did. -/
def eliminateAgreesUptoRow : OpenClaim := { program := "ytbjogdohfhdaiaagreat", sum := "184e5fd31d5e425adb8608f846766e1974e241d309425121d959a21638cdb45e", func := "haruspex/haruspexlaw09.EliminateAgrees", spec := "eliminateAgrees", inPlace := ["slices.overlaps[int]"], unfollowed := true, recurses := true, plainKeys := false, apart := false, narrowed := true }
def EliminateAgreesUptoSaid : Prop := eliminateAgreesUptoRow.holds Tryz.pinned (OpenSpec.upto eliminateAgreesSpec)

end Rows
end Go.Proofs.YtbjogdohfhdaiaaGreat

/-
  No cell of these rows narrows 'for every input' (looked for: loops, veiled, ifaces, maps, wideKeys, modest, calm, conditions, laid).
  DERIVED. THE GIVEN ROWS OF THIS SEAT. 12 by the template 'for every input the law returns true; each argument reads behind the call as it read before'; 0 by the template 'total and deterministic' (their statements: YtlpoknplonmfmaaTotals.lean).
  GIVEN WITH THE SEED: the statements are not yours to turn. If you find one false, say at which input.
  Laid BY PROGRAM, IN A SANDBOX (cutbox-rows.mjs): the forced cells as the released guide's own fill.sh prints them over the translation 669d031904d899d4… (all of the seat's roots in one cut). By AI agents, Wed Nov 11 2026. No macro, syntax, notation, axiom, sorry.
-/
import Derived.Test.YtlpoknplonmfmaaChecked
import GoSem.Claim
import GoSem.ClaimJoined
import GoSem.ClaimMapViews
import Derived.JoinedTies
import Derived.KernelRfl
namespace Go.Proofs.Ytlpoknplonmfmaa
/- THE CELL 'sum', in the pinned program and in every row, IS THE sha256 OF THE DUMP (.gsa) THAT YtlpoknplonmfmaaProg.lean LOADS. Nothing in Lean hashes anything: it is a label: what it is worth is what the hold of that sum in a sandbox is worth. -/
noncomputable def Try.pinned : Pinned := { name := "ytlpoknplonmfmaa", sum := "669d031904d899d4d4478921bb2969f04cb2d0d30cf24db1b8a000f63bd68ad6", checked := Try.checked }
namespace Rows
def none {H : Type} : Left H := { results := [], args := [] }

/-- 'laws.FnExactHideSignals': WHATEVER THE INPUT: true; the input reads as it did. -/
def fnExactHideSignalsSpec : ChangeSpec := { name := "fnExactHideSignals", fn := fun _ => fun
  | [d1, d2, d3] => { results := [.lit (.bool true)], args := [d1, d2, d3] }
  | _ => none }
def fnExactHideSignalsRow : OpenClaim := { program := "ytlpoknplonmfmaa", sum := "669d031904d899d4d4478921bb2969f04cb2d0d30cf24db1b8a000f63bd68ad6", func := "loop.example/g00940/laws.FnExactHideSignals", spec := "fnExactHideSignals", apart := false }
def FnExactHideSignalsSaid : Prop := fnExactHideSignalsRow.holds Try.pinned (OpenSpec.ofChange fnExactHideSignalsSpec)

/-- ITS FALSE NEIGHBOUR: 'it returns false'. Refute it at one input. -/
def fnExactHideSignalsWrong : ChangeSpec := { name := "fnExactHideSignals", fn := fun _ => fun
  | [d1, d2, d3] => { results := [.lit (.bool false)], args := [d1, d2, d3] }
  | _ => none }
def FnExactHideSignalsWrongFalsely : Prop := fnExactHideSignalsRow.holds Try.pinned (OpenSpec.ofChange fnExactHideSignalsWrong)

/-- 'laws.FnExactShowSignals': WHATEVER THE INPUT: true; the input reads as it did. -/
def fnExactShowSignalsSpec : ChangeSpec := { name := "fnExactShowSignals", fn := fun _ => fun
  | [d1, d2, d3] => { results := [.lit (.bool true)], args := [d1, d2, d3] }
  | _ => none }
def fnExactShowSignalsRow : OpenClaim := { program := "ytlpoknplonmfmaa", sum := "669d031904d899d4d4478921bb2969f04cb2d0d30cf24db1b8a000f63bd68ad6", func := "loop.example/g00940/laws.FnExactShowSignals", spec := "fnExactShowSignals", apart := false }
def FnExactShowSignalsSaid : Prop := fnExactShowSignalsRow.holds Try.pinned (OpenSpec.ofChange fnExactShowSignalsSpec)

/-- ITS FALSE NEIGHBOUR: 'it returns false'. Refute it at one input. -/
def fnExactShowSignalsWrong : ChangeSpec := { name := "fnExactShowSignals", fn := fun _ => fun
  | [d1, d2, d3] => { results := [.lit (.bool false)], args := [d1, d2, d3] }
  | _ => none }
def FnExactShowSignalsWrongFalsely : Prop := fnExactShowSignalsRow.holds Try.pinned (OpenSpec.ofChange fnExactShowSignalsWrong)

/-- 'laws.FnExactAreLogs': WHATEVER THE INPUT: true; the input reads as it did. -/
def fnExactAreLogsSpec : ChangeSpec := { name := "fnExactAreLogs", fn := fun _ => fun
  | [d] => { results := [.lit (.bool true)], args := [d] }
  | _ => none }
def fnExactAreLogsRow : OpenClaim := { program := "ytlpoknplonmfmaa", sum := "669d031904d899d4d4478921bb2969f04cb2d0d30cf24db1b8a000f63bd68ad6", func := "loop.example/g00940/laws.FnExactAreLogs", spec := "fnExactAreLogs", unfollowed := true, recurses := true, apart := false }
def FnExactAreLogsSaid : Prop := fnExactAreLogsRow.holds Try.pinned (OpenSpec.ofChange fnExactAreLogsSpec)

/-- ITS FALSE NEIGHBOUR: 'it returns false'. Refute it at one input. -/
def fnExactAreLogsWrong : ChangeSpec := { name := "fnExactAreLogs", fn := fun _ => fun
  | [d] => { results := [.lit (.bool false)], args := [d] }
  | _ => none }
def FnExactAreLogsWrongFalsely : Prop := fnExactAreLogsRow.holds Try.pinned (OpenSpec.ofChange fnExactAreLogsWrong)

/-- 'laws.FnExactLostCount': WHATEVER THE INPUT: true; the input reads as it did. -/
def fnExactLostCountSpec : ChangeSpec := { name := "fnExactLostCount", fn := fun _ => fun
  | [d1, d2, d3] => { results := [.lit (.bool true)], args := [d1, d2, d3] }
  | _ => none }
def fnExactLostCountRow : OpenClaim := { program := "ytlpoknplonmfmaa", sum := "669d031904d899d4d4478921bb2969f04cb2d0d30cf24db1b8a000f63bd68ad6", func := "loop.example/g00940/laws.FnExactLostCount", spec := "fnExactLostCount", unfollowed := true, recurses := true, apart := false }
def FnExactLostCountSaid : Prop := fnExactLostCountRow.holds Try.pinned (OpenSpec.ofChange fnExactLostCountSpec)

/-- ITS FALSE NEIGHBOUR: 'it returns false'. Refute it at one input. -/
def fnExactLostCountWrong : ChangeSpec := { name := "fnExactLostCount", fn := fun _ => fun
  | [d1, d2, d3] => { results := [.lit (.bool false)], args := [d1, d2, d3] }
  | _ => none }
def FnExactLostCountWrongFalsely : Prop := fnExactLostCountRow.holds Try.pinned (OpenSpec.ofChange fnExactLostCountWrong)

/-- 'laws.FnExactChangedEntries': WHATEVER THE INPUT: true; the input reads as it did. -/
def fnExactChangedEntriesSpec : ChangeSpec := { name := "fnExactChangedEntries", fn := fun _ => fun
  | [d] => { results := [.lit (.bool true)], args := [d] }
  | _ => none }
def fnExactChangedEntriesRow : OpenClaim := { program := "ytlpoknplonmfmaa", sum := "669d031904d899d4d4478921bb2969f04cb2d0d30cf24db1b8a000f63bd68ad6", func := "loop.example/g00940/laws.FnExactChangedEntries", spec := "fnExactChangedEntries", unfollowed := true, recurses := true, apart := false }
def FnExactChangedEntriesSaid : Prop := fnExactChangedEntriesRow.holds Try.pinned (OpenSpec.ofChange fnExactChangedEntriesSpec)

/-- ITS FALSE NEIGHBOUR: 'it returns false'. Refute it at one input. -/
def fnExactChangedEntriesWrong : ChangeSpec := { name := "fnExactChangedEntries", fn := fun _ => fun
  | [d] => { results := [.lit (.bool false)], args := [d] }
  | _ => none }
def FnExactChangedEntriesWrongFalsely : Prop := fnExactChangedEntriesRow.holds Try.pinned (OpenSpec.ofChange fnExactChangedEntriesWrong)

/-- 'laws.FnExactLastTower': WHATEVER THE INPUT: true; the input reads as it did. -/
def fnExactLastTowerSpec : ChangeSpec := { name := "fnExactLastTower", fn := fun _ => fun
  | [d1, d2, d3] => { results := [.lit (.bool true)], args := [d1, d2, d3] }
  | _ => none }
def fnExactLastTowerRow : OpenClaim := { program := "ytlpoknplonmfmaa", sum := "669d031904d899d4d4478921bb2969f04cb2d0d30cf24db1b8a000f63bd68ad6", func := "loop.example/g00940/laws.FnExactLastTower", spec := "fnExactLastTower", unfollowed := true, recurses := true, apart := false }
def FnExactLastTowerSaid : Prop := fnExactLastTowerRow.holds Try.pinned (OpenSpec.ofChange fnExactLastTowerSpec)

/-- ITS FALSE NEIGHBOUR: 'it returns false'. Refute it at one input. -/
def fnExactLastTowerWrong : ChangeSpec := { name := "fnExactLastTower", fn := fun _ => fun
  | [d1, d2, d3] => { results := [.lit (.bool false)], args := [d1, d2, d3] }
  | _ => none }
def FnExactLastTowerWrongFalsely : Prop := fnExactLastTowerRow.holds Try.pinned (OpenSpec.ofChange fnExactLastTowerWrong)

/-- 'laws.FnExactFitsBetween': WHATEVER THE INPUT: true; the input reads as it did. -/
def fnExactFitsBetweenSpec : ChangeSpec := { name := "fnExactFitsBetween", fn := fun _ => fun
  | [d1, d2, d3, d4, d5] => { results := [.lit (.bool true)], args := [d1, d2, d3, d4, d5] }
  | _ => none }
def fnExactFitsBetweenRow : OpenClaim := { program := "ytlpoknplonmfmaa", sum := "669d031904d899d4d4478921bb2969f04cb2d0d30cf24db1b8a000f63bd68ad6", func := "loop.example/g00940/laws.FnExactFitsBetween", spec := "fnExactFitsBetween", unfollowed := true, recurses := true, apart := false }
def FnExactFitsBetweenSaid : Prop := fnExactFitsBetweenRow.holds Try.pinned (OpenSpec.ofChange fnExactFitsBetweenSpec)

/-- ITS FALSE NEIGHBOUR: 'it returns false'. Refute it at one input. -/
def fnExactFitsBetweenWrong : ChangeSpec := { name := "fnExactFitsBetween", fn := fun _ => fun
  | [d1, d2, d3, d4, d5] => { results := [.lit (.bool false)], args := [d1, d2, d3, d4, d5] }
  | _ => none }
def FnExactFitsBetweenWrongFalsely : Prop := fnExactFitsBetweenRow.holds Try.pinned (OpenSpec.ofChange fnExactFitsBetweenWrong)

/-- 'laws.FnExactOnlyBefore': WHATEVER THE INPUT: true; the input reads as it did. -/
def fnExactOnlyBeforeSpec : ChangeSpec := { name := "fnExactOnlyBefore", fn := fun _ => fun
  | [d1, d2] => { results := [.lit (.bool true)], args := [d1, d2] }
  | _ => none }
def fnExactOnlyBeforeRow : OpenClaim := { program := "ytlpoknplonmfmaa", sum := "669d031904d899d4d4478921bb2969f04cb2d0d30cf24db1b8a000f63bd68ad6", func := "loop.example/g00940/laws.FnExactOnlyBefore", spec := "fnExactOnlyBefore", unfollowed := true, recurses := true, apart := false }
def FnExactOnlyBeforeSaid : Prop := fnExactOnlyBeforeRow.holds Try.pinned (OpenSpec.ofChange fnExactOnlyBeforeSpec)

/-- ITS FALSE NEIGHBOUR: 'it returns false'. Refute it at one input. -/
def fnExactOnlyBeforeWrong : ChangeSpec := { name := "fnExactOnlyBefore", fn := fun _ => fun
  | [d1, d2] => { results := [.lit (.bool false)], args := [d1, d2] }
  | _ => none }
def FnExactOnlyBeforeWrongFalsely : Prop := fnExactOnlyBeforeRow.holds Try.pinned (OpenSpec.ofChange fnExactOnlyBeforeWrong)

/-- 'laws.FnExactOnlyBehind': WHATEVER THE INPUT: true; the input reads as it did. -/
def fnExactOnlyBehindSpec : ChangeSpec := { name := "fnExactOnlyBehind", fn := fun _ => fun
  | [d1, d2] => { results := [.lit (.bool true)], args := [d1, d2] }
  | _ => none }
def fnExactOnlyBehindRow : OpenClaim := { program := "ytlpoknplonmfmaa", sum := "669d031904d899d4d4478921bb2969f04cb2d0d30cf24db1b8a000f63bd68ad6", func := "loop.example/g00940/laws.FnExactOnlyBehind", spec := "fnExactOnlyBehind", unfollowed := true, recurses := true, apart := false }
def FnExactOnlyBehindSaid : Prop := fnExactOnlyBehindRow.holds Try.pinned (OpenSpec.ofChange fnExactOnlyBehindSpec)

/-- ITS FALSE NEIGHBOUR: 'it returns false'. Refute it at one input. -/
def fnExactOnlyBehindWrong : ChangeSpec := { name := "fnExactOnlyBehind", fn := fun _ => fun
  | [d1, d2] => { results := [.lit (.bool false)], args := [d1, d2] }
  | _ => none }
def FnExactOnlyBehindWrongFalsely : Prop := fnExactOnlyBehindRow.holds Try.pinned (OpenSpec.ofChange fnExactOnlyBehindWrong)

/-- 'laws.FnExactEntriesFrom': WHATEVER THE INPUT: true; the input reads as it did. -/
def fnExactEntriesFromSpec : ChangeSpec := { name := "fnExactEntriesFrom", fn := fun _ => fun
  | [d1, d2, d3] => { results := [.lit (.bool true)], args := [d1, d2, d3] }
  | _ => none }
def fnExactEntriesFromRow : OpenClaim := { program := "ytlpoknplonmfmaa", sum := "669d031904d899d4d4478921bb2969f04cb2d0d30cf24db1b8a000f63bd68ad6", func := "loop.example/g00940/laws.FnExactEntriesFrom", spec := "fnExactEntriesFrom", unfollowed := true, recurses := true, apart := false }
def FnExactEntriesFromSaid : Prop := fnExactEntriesFromRow.holds Try.pinned (OpenSpec.ofChange fnExactEntriesFromSpec)

/-- ITS FALSE NEIGHBOUR: 'it returns false'. Refute it at one input. -/
def fnExactEntriesFromWrong : ChangeSpec := { name := "fnExactEntriesFrom", fn := fun _ => fun
  | [d1, d2, d3] => { results := [.lit (.bool false)], args := [d1, d2, d3] }
  | _ => none }
def FnExactEntriesFromWrongFalsely : Prop := fnExactEntriesFromRow.holds Try.pinned (OpenSpec.ofChange fnExactEntriesFromWrong)

/-- 'laws.FnExactAppendEntry': WHATEVER THE INPUT: true; the input reads as it did. -/
def fnExactAppendEntrySpec : ChangeSpec := { name := "fnExactAppendEntry", fn := fun _ => fun
  | [d1, d2] => { results := [.lit (.bool true)], args := [d1, d2] }
  | _ => none }
def fnExactAppendEntryRow : OpenClaim := { program := "ytlpoknplonmfmaa", sum := "669d031904d899d4d4478921bb2969f04cb2d0d30cf24db1b8a000f63bd68ad6", func := "loop.example/g00940/laws.FnExactAppendEntry", spec := "fnExactAppendEntry", unfollowed := true, recurses := true, apart := false }
def FnExactAppendEntrySaid : Prop := fnExactAppendEntryRow.holds Try.pinned (OpenSpec.ofChange fnExactAppendEntrySpec)

/-- ITS FALSE NEIGHBOUR: 'it returns false'. Refute it at one input. -/
def fnExactAppendEntryWrong : ChangeSpec := { name := "fnExactAppendEntry", fn := fun _ => fun
  | [d1, d2] => { results := [.lit (.bool false)], args := [d1, d2] }
  | _ => none }
def FnExactAppendEntryWrongFalsely : Prop := fnExactAppendEntryRow.holds Try.pinned (OpenSpec.ofChange fnExactAppendEntryWrong)

/-- 'laws.FnExactTimesOf': WHATEVER THE INPUT: true; the input reads as it did. -/
def fnExactTimesOfSpec : ChangeSpec := { name := "fnExactTimesOf", fn := fun _ => fun
  | [d1, d2, d3] => { results := [.lit (.bool true)], args := [d1, d2, d3] }
  | _ => none }
def fnExactTimesOfRow : OpenClaim := { program := "ytlpoknplonmfmaa", sum := "669d031904d899d4d4478921bb2969f04cb2d0d30cf24db1b8a000f63bd68ad6", func := "loop.example/g00940/laws.FnExactTimesOf", spec := "fnExactTimesOf", unfollowed := true, recurses := true, apart := false }
def FnExactTimesOfSaid : Prop := fnExactTimesOfRow.holds Try.pinned (OpenSpec.ofChange fnExactTimesOfSpec)

/-- ITS FALSE NEIGHBOUR: 'it returns false'. Refute it at one input. -/
def fnExactTimesOfWrong : ChangeSpec := { name := "fnExactTimesOf", fn := fun _ => fun
  | [d1, d2, d3] => { results := [.lit (.bool false)], args := [d1, d2, d3] }
  | _ => none }
def FnExactTimesOfWrongFalsely : Prop := fnExactTimesOfRow.holds Try.pinned (OpenSpec.ofChange fnExactTimesOfWrong)

/- THE SECOND FORM. 'bulk': how many values and letters a reading holds, each counted each time it is reached (what is shared counts as often as it is met; a slice's spare places count too). A statement '..UptoSaid' is the law's where the arguments, and the package variables that the reading takes, are together of bulk at most 1048576: NARROWER than '..Said'. Prove '..Said' where nothing that the law and all that it calls make is longer than what came in: it says more and counts as full. Else prove '..UptoSaid'. A law counts once. -/
mutual
def uptoBulk {H : Type} : DataW H → Nat
  | .lit (.string bytes) => bytes.length + 1
  | .lit _ => 1
  | .nil => 1
  | .ptr d => uptoBulk d + 1
  | .slice elems spare => uptoBulkAll elems + uptoBulkAll spare + 1
  | .agg parts => uptoBulkAll parts + 1
  | .iface _ d => uptoBulk d + 1
  | .map entries => uptoBulkEntries entries + 1
  | .held _ => 1
def uptoBulkAll {H : Type} : List (DataW H) → Nat
  | [] => 0
  | d :: r => uptoBulk d + uptoBulkAll r
def uptoBulkEntries {H : Type} : List (Lit × DataW H) → Nat
  | [] => 0
  | x :: r => uptoBulkEntry x + uptoBulkEntries r
def uptoBulkEntry {H : Type} : Lit × DataW H → Nat
  | (.string bytes, d) => bytes.length + uptoBulk d + 1
  | (_, d) => uptoBulk d + 1
 end
def uptoSmall : (H : Type) → List (DataW H) → Bool := fun _ ds => decide (uptoBulkAll ds ≤ 1048576)
def OpenSpec.upto (s : _root_.Go.ChangeSpec) : _root_.Go.OpenSpec := { _root_.Go.OpenSpec.ofChange s with cond := some uptoSmall }

/-- 'laws.FnExactHideSignals', WHERE WHAT IT READS IS OF BULK AT MOST 1048576: true; the input reads as it did. -/
def fnExactHideSignalsUptoRow : OpenClaim := { program := "ytlpoknplonmfmaa", sum := "669d031904d899d4d4478921bb2969f04cb2d0d30cf24db1b8a000f63bd68ad6", func := "loop.example/g00940/laws.FnExactHideSignals", spec := "fnExactHideSignals", apart := false, narrowed := true }
def FnExactHideSignalsUptoSaid : Prop := fnExactHideSignalsUptoRow.holds Try.pinned (OpenSpec.upto fnExactHideSignalsSpec)

/-- 'laws.FnExactShowSignals', WHERE WHAT IT READS IS OF BULK AT MOST 1048576: true; the input reads as it did. -/
def fnExactShowSignalsUptoRow : OpenClaim := { program := "ytlpoknplonmfmaa", sum := "669d031904d899d4d4478921bb2969f04cb2d0d30cf24db1b8a000f63bd68ad6", func := "loop.example/g00940/laws.FnExactShowSignals", spec := "fnExactShowSignals", apart := false, narrowed := true }
def FnExactShowSignalsUptoSaid : Prop := fnExactShowSignalsUptoRow.holds Try.pinned (OpenSpec.upto fnExactShowSignalsSpec)

/-- 'laws.FnExactAreLogs', WHERE WHAT IT READS IS OF BULK AT MOST 1048576: true; the input reads as it did. -/
def fnExactAreLogsUptoRow : OpenClaim := { program := "ytlpoknplonmfmaa", sum := "669d031904d899d4d4478921bb2969f04cb2d0d30cf24db1b8a000f63bd68ad6", func := "loop.example/g00940/laws.FnExactAreLogs", spec := "fnExactAreLogs", unfollowed := true, recurses := true, apart := false, narrowed := true }
def FnExactAreLogsUptoSaid : Prop := fnExactAreLogsUptoRow.holds Try.pinned (OpenSpec.upto fnExactAreLogsSpec)

/-- 'laws.FnExactLostCount', WHERE WHAT IT READS IS OF BULK AT MOST 1048576: true; the input reads as it did. -/
def fnExactLostCountUptoRow : OpenClaim := { program := "ytlpoknplonmfmaa", sum := "669d031904d899d4d4478921bb2969f04cb2d0d30cf24db1b8a000f63bd68ad6", func := "loop.example/g00940/laws.FnExactLostCount", spec := "fnExactLostCount", unfollowed := true, recurses := true, apart := false, narrowed := true }
def FnExactLostCountUptoSaid : Prop := fnExactLostCountUptoRow.holds Try.pinned (OpenSpec.upto fnExactLostCountSpec)

/-- 'laws.FnExactChangedEntries', WHERE WHAT IT READS IS OF BULK AT MOST 1048576: true; the input reads as it did. -/
def fnExactChangedEntriesUptoRow : OpenClaim := { program := "ytlpoknplonmfmaa", sum := "669d031904d899d4d4478921bb2969f04cb2d0d30cf24db1b8a000f63bd68ad6", func := "loop.example/g00940/laws.FnExactChangedEntries", spec := "fnExactChangedEntries", unfollowed := true, recurses := true, apart := false, narrowed := true }
def FnExactChangedEntriesUptoSaid : Prop := fnExactChangedEntriesUptoRow.holds Try.pinned (OpenSpec.upto fnExactChangedEntriesSpec)

/-- 'laws.FnExactLastTower', WHERE WHAT IT READS IS OF BULK AT MOST 1048576: true; the input reads as it did. -/
def fnExactLastTowerUptoRow : OpenClaim := { program := "ytlpoknplonmfmaa", sum := "669d031904d899d4d4478921bb2969f04cb2d0d30cf24db1b8a000f63bd68ad6", func := "loop.example/g00940/laws.FnExactLastTower", spec := "fnExactLastTower", unfollowed := true, recurses := true, apart := false, narrowed := true }
def FnExactLastTowerUptoSaid : Prop := fnExactLastTowerUptoRow.holds Try.pinned (OpenSpec.upto fnExactLastTowerSpec)

/-- 'laws.FnExactFitsBetween', WHERE WHAT IT READS IS OF BULK AT MOST 1048576: true; the input reads as it did. -/
def fnExactFitsBetweenUptoRow : OpenClaim := { program := "ytlpoknplonmfmaa", sum := "669d031904d899d4d4478921bb2969f04cb2d0d30cf24db1b8a000f63bd68ad6", func := "loop.example/g00940/laws.FnExactFitsBetween", spec := "fnExactFitsBetween", unfollowed := true, recurses := true, apart := false, narrowed := true }
def FnExactFitsBetweenUptoSaid : Prop := fnExactFitsBetweenUptoRow.holds Try.pinned (OpenSpec.upto fnExactFitsBetweenSpec)

/-- 'laws.FnExactOnlyBefore', WHERE WHAT IT READS IS OF BULK AT MOST 1048576: true; the input reads as it did. -/
def fnExactOnlyBeforeUptoRow : OpenClaim := { program := "ytlpoknplonmfmaa", sum := "669d031904d899d4d4478921bb2969f04cb2d0d30cf24db1b8a000f63bd68ad6", func := "loop.example/g00940/laws.FnExactOnlyBefore", spec := "fnExactOnlyBefore", unfollowed := true, recurses := true, apart := false, narrowed := true }
def FnExactOnlyBeforeUptoSaid : Prop := fnExactOnlyBeforeUptoRow.holds Try.pinned (OpenSpec.upto fnExactOnlyBeforeSpec)

/-- 'laws.FnExactOnlyBehind', WHERE WHAT IT READS IS OF BULK AT MOST 1048576: true; the input reads as it did. -/
def fnExactOnlyBehindUptoRow : OpenClaim := { program := "ytlpoknplonmfmaa", sum := "669d031904d899d4d4478921bb2969f04cb2d0d30cf24db1b8a000f63bd68ad6", func := "loop.example/g00940/laws.FnExactOnlyBehind", spec := "fnExactOnlyBehind", unfollowed := true, recurses := true, apart := false, narrowed := true }
def FnExactOnlyBehindUptoSaid : Prop := fnExactOnlyBehindUptoRow.holds Try.pinned (OpenSpec.upto fnExactOnlyBehindSpec)

/-- 'laws.FnExactEntriesFrom', WHERE WHAT IT READS IS OF BULK AT MOST 1048576: true; the input reads as it did. -/
def fnExactEntriesFromUptoRow : OpenClaim := { program := "ytlpoknplonmfmaa", sum := "669d031904d899d4d4478921bb2969f04cb2d0d30cf24db1b8a000f63bd68ad6", func := "loop.example/g00940/laws.FnExactEntriesFrom", spec := "fnExactEntriesFrom", unfollowed := true, recurses := true, apart := false, narrowed := true }
def FnExactEntriesFromUptoSaid : Prop := fnExactEntriesFromUptoRow.holds Try.pinned (OpenSpec.upto fnExactEntriesFromSpec)

/-- 'laws.FnExactAppendEntry', WHERE WHAT IT READS IS OF BULK AT MOST 1048576: true; the input reads as it did. -/
def fnExactAppendEntryUptoRow : OpenClaim := { program := "ytlpoknplonmfmaa", sum := "669d031904d899d4d4478921bb2969f04cb2d0d30cf24db1b8a000f63bd68ad6", func := "loop.example/g00940/laws.FnExactAppendEntry", spec := "fnExactAppendEntry", unfollowed := true, recurses := true, apart := false, narrowed := true }
def FnExactAppendEntryUptoSaid : Prop := fnExactAppendEntryUptoRow.holds Try.pinned (OpenSpec.upto fnExactAppendEntrySpec)

/-- 'laws.FnExactTimesOf', WHERE WHAT IT READS IS OF BULK AT MOST 1048576: true; the input reads as it did. -/
def fnExactTimesOfUptoRow : OpenClaim := { program := "ytlpoknplonmfmaa", sum := "669d031904d899d4d4478921bb2969f04cb2d0d30cf24db1b8a000f63bd68ad6", func := "loop.example/g00940/laws.FnExactTimesOf", spec := "fnExactTimesOf", unfollowed := true, recurses := true, apart := false, narrowed := true }
def FnExactTimesOfUptoSaid : Prop := fnExactTimesOfUptoRow.holds Try.pinned (OpenSpec.upto fnExactTimesOfSpec)

end Rows
end Go.Proofs.Ytlpoknplonmfmaa

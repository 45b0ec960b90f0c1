/-
  No cell of these rows narrows 'for every input' (looked for: loops, veiled, ifaces, maps, wideKeys, modest, calm, conditions, laid).
  DERIVED. THE GIVEN ROWS OF THIS SEAT. 9 by the template 'for every input the law returns true; each argument reads behind the call as it read before'; 0 by the template 'total and deterministic' (their statements: YtbagliaelolhcaaTotals.lean).
  GIVEN WITH THE SEED: the statements are not yours to turn. If you find one false, say at which input.
  Laid BY PROGRAM, IN A SANDBOX (cutbox-rows.mjs): the forced cells as the released guide's own fill.sh prints them over the translation 4fb8135145b5191c… (all of the seat's roots in one cut). By AI agents, Wed Nov 11 2026. No macro, syntax, notation, axiom, sorry.
-/
import Derived.Test.YtbagliaelolhcaaChecked
import GoSem.Claim
import GoSem.ClaimJoined
import GoSem.ClaimMapViews
import Derived.JoinedTies
import Derived.KernelRfl
namespace Go.Proofs.Ytbagliaelolhcaa
/- THE CELL 'sum', in the pinned program and in every row, IS THE sha256 OF THE DUMP (.gsa) THAT YtbagliaelolhcaaProg.lean LOADS. Nothing in Lean hashes anything: it is a label: what it is worth is what the hold of that sum in a sandbox is worth. -/
noncomputable def Try.pinned : Pinned := { name := "ytbagliaelolhcaa", sum := "4fb8135145b5191ce277c8e7758d568e1e7d55d22b3d6c0b476ca1577382b5b5", checked := Try.checked }
namespace Rows
def none {H : Type} : Left H := { results := [], args := [] }

/-- 'laws.FnExactLostCount': WHATEVER THE INPUT: true; the input reads as it did. -/
def fnExactLostCountSpec : ChangeSpec := { name := "fnExactLostCount", fn := fun _ => fun
  | [d1, d2, d3] => { results := [.lit (.bool true)], args := [d1, d2, d3] }
  | _ => none }
def fnExactLostCountRow : OpenClaim := { program := "ytbagliaelolhcaa", sum := "4fb8135145b5191ce277c8e7758d568e1e7d55d22b3d6c0b476ca1577382b5b5", func := "loop.example/g00940/laws.FnExactLostCount", spec := "fnExactLostCount", unfollowed := true, recurses := true, apart := false }
def FnExactLostCountSaid : Prop := fnExactLostCountRow.holds Try.pinned (OpenSpec.ofChange fnExactLostCountSpec)

/-- ITS FALSE NEIGHBOUR: 'it returns false'. Refute it at one input. -/
def fnExactLostCountWrong : ChangeSpec := { name := "fnExactLostCount", fn := fun _ => fun
  | [d1, d2, d3] => { results := [.lit (.bool false)], args := [d1, d2, d3] }
  | _ => none }
def FnExactLostCountWrongFalsely : Prop := fnExactLostCountRow.holds Try.pinned (OpenSpec.ofChange fnExactLostCountWrong)

/-- 'laws.FnExactFitsBetween': WHATEVER THE INPUT: true; the input reads as it did. -/
def fnExactFitsBetweenSpec : ChangeSpec := { name := "fnExactFitsBetween", fn := fun _ => fun
  | [d1, d2, d3, d4, d5] => { results := [.lit (.bool true)], args := [d1, d2, d3, d4, d5] }
  | _ => none }
def fnExactFitsBetweenRow : OpenClaim := { program := "ytbagliaelolhcaa", sum := "4fb8135145b5191ce277c8e7758d568e1e7d55d22b3d6c0b476ca1577382b5b5", func := "loop.example/g00940/laws.FnExactFitsBetween", spec := "fnExactFitsBetween", unfollowed := true, recurses := true, apart := false }
def FnExactFitsBetweenSaid : Prop := fnExactFitsBetweenRow.holds Try.pinned (OpenSpec.ofChange fnExactFitsBetweenSpec)

/-- ITS FALSE NEIGHBOUR: 'it returns false'. Refute it at one input. -/
def fnExactFitsBetweenWrong : ChangeSpec := { name := "fnExactFitsBetween", fn := fun _ => fun
  | [d1, d2, d3, d4, d5] => { results := [.lit (.bool false)], args := [d1, d2, d3, d4, d5] }
  | _ => none }
def FnExactFitsBetweenWrongFalsely : Prop := fnExactFitsBetweenRow.holds Try.pinned (OpenSpec.ofChange fnExactFitsBetweenWrong)

/-- 'laws.FnExactEntriesFrom': WHATEVER THE INPUT: true; the input reads as it did. -/
def fnExactEntriesFromSpec : ChangeSpec := { name := "fnExactEntriesFrom", fn := fun _ => fun
  | [d1, d2, d3] => { results := [.lit (.bool true)], args := [d1, d2, d3] }
  | _ => none }
def fnExactEntriesFromRow : OpenClaim := { program := "ytbagliaelolhcaa", sum := "4fb8135145b5191ce277c8e7758d568e1e7d55d22b3d6c0b476ca1577382b5b5", func := "loop.example/g00940/laws.FnExactEntriesFrom", spec := "fnExactEntriesFrom", unfollowed := true, recurses := true, apart := false }
def FnExactEntriesFromSaid : Prop := fnExactEntriesFromRow.holds Try.pinned (OpenSpec.ofChange fnExactEntriesFromSpec)

/-- ITS FALSE NEIGHBOUR: 'it returns false'. Refute it at one input. -/
def fnExactEntriesFromWrong : ChangeSpec := { name := "fnExactEntriesFrom", fn := fun _ => fun
  | [d1, d2, d3] => { results := [.lit (.bool false)], args := [d1, d2, d3] }
  | _ => none }
def FnExactEntriesFromWrongFalsely : Prop := fnExactEntriesFromRow.holds Try.pinned (OpenSpec.ofChange fnExactEntriesFromWrong)

/-- 'laws.FnExactAppendEntry': WHATEVER THE INPUT: true; the input reads as it did. -/
def fnExactAppendEntrySpec : ChangeSpec := { name := "fnExactAppendEntry", fn := fun _ => fun
  | [d1, d2] => { results := [.lit (.bool true)], args := [d1, d2] }
  | _ => none }
def fnExactAppendEntryRow : OpenClaim := { program := "ytbagliaelolhcaa", sum := "4fb8135145b5191ce277c8e7758d568e1e7d55d22b3d6c0b476ca1577382b5b5", func := "loop.example/g00940/laws.FnExactAppendEntry", spec := "fnExactAppendEntry", unfollowed := true, recurses := true, apart := false }
def FnExactAppendEntrySaid : Prop := fnExactAppendEntryRow.holds Try.pinned (OpenSpec.ofChange fnExactAppendEntrySpec)

/-- ITS FALSE NEIGHBOUR: 'it returns false'. Refute it at one input. -/
def fnExactAppendEntryWrong : ChangeSpec := { name := "fnExactAppendEntry", fn := fun _ => fun
  | [d1, d2] => { results := [.lit (.bool false)], args := [d1, d2] }
  | _ => none }
def FnExactAppendEntryWrongFalsely : Prop := fnExactAppendEntryRow.holds Try.pinned (OpenSpec.ofChange fnExactAppendEntryWrong)

/-- 'laws.FnExactJoinLogs': WHATEVER THE INPUT: true; the input reads as it did. -/
def fnExactJoinLogsSpec : ChangeSpec := { name := "fnExactJoinLogs", fn := fun _ => fun
  | [d1, d2] => { results := [.lit (.bool true)], args := [d1, d2] }
  | _ => none }
def fnExactJoinLogsRow : OpenClaim := { program := "ytbagliaelolhcaa", sum := "4fb8135145b5191ce277c8e7758d568e1e7d55d22b3d6c0b476ca1577382b5b5", func := "loop.example/g00940/laws.FnExactJoinLogs", spec := "fnExactJoinLogs", unfollowed := true, recurses := true, apart := false }
def FnExactJoinLogsSaid : Prop := fnExactJoinLogsRow.holds Try.pinned (OpenSpec.ofChange fnExactJoinLogsSpec)

/-- ITS FALSE NEIGHBOUR: 'it returns false'. Refute it at one input. -/
def fnExactJoinLogsWrong : ChangeSpec := { name := "fnExactJoinLogs", fn := fun _ => fun
  | [d1, d2] => { results := [.lit (.bool false)], args := [d1, d2] }
  | _ => none }
def FnExactJoinLogsWrongFalsely : Prop := fnExactJoinLogsRow.holds Try.pinned (OpenSpec.ofChange fnExactJoinLogsWrong)

/-- 'laws.FnLogParts': WHATEVER THE INPUT: true; the input reads as it did. -/
def fnLogPartsSpec : ChangeSpec := { name := "fnLogParts", fn := fun _ => fun
  | [d1, d2] => { results := [.lit (.bool true)], args := [d1, d2] }
  | _ => none }
def fnLogPartsRow : OpenClaim := { program := "ytbagliaelolhcaa", sum := "4fb8135145b5191ce277c8e7758d568e1e7d55d22b3d6c0b476ca1577382b5b5", func := "loop.example/g00940/laws.FnLogParts", spec := "fnLogParts", unfollowed := true, recurses := true, apart := false }
def FnLogPartsSaid : Prop := fnLogPartsRow.holds Try.pinned (OpenSpec.ofChange fnLogPartsSpec)

/-- ITS FALSE NEIGHBOUR: 'it returns false'. Refute it at one input. -/
def fnLogPartsWrong : ChangeSpec := { name := "fnLogParts", fn := fun _ => fun
  | [d1, d2] => { results := [.lit (.bool false)], args := [d1, d2] }
  | _ => none }
def FnLogPartsWrongFalsely : Prop := fnLogPartsRow.holds Try.pinned (OpenSpec.ofChange fnLogPartsWrong)

/-- 'laws.FnTraces': WHATEVER THE INPUT: true; the input reads as it did. -/
def fnTracesSpec : ChangeSpec := { name := "fnTraces", fn := fun _ => fun
  | [d1, d2] => { results := [.lit (.bool true)], args := [d1, d2] }
  | _ => none }
def fnTracesRow : OpenClaim := { program := "ytbagliaelolhcaa", sum := "4fb8135145b5191ce277c8e7758d568e1e7d55d22b3d6c0b476ca1577382b5b5", func := "loop.example/g00940/laws.FnTraces", spec := "fnTraces", unfollowed := true, recurses := true, apart := false }
def FnTracesSaid : Prop := fnTracesRow.holds Try.pinned (OpenSpec.ofChange fnTracesSpec)

/-- ITS FALSE NEIGHBOUR: 'it returns false'. Refute it at one input. -/
def fnTracesWrong : ChangeSpec := { name := "fnTraces", fn := fun _ => fun
  | [d1, d2] => { results := [.lit (.bool false)], args := [d1, d2] }
  | _ => none }
def FnTracesWrongFalsely : Prop := fnTracesRow.holds Try.pinned (OpenSpec.ofChange fnTracesWrong)

/-- 'laws.FnPages': WHATEVER THE INPUT: true; the input reads as it did. -/
def fnPagesSpec : ChangeSpec := { name := "fnPages", fn := fun _ => fun
  | [d1, d2] => { results := [.lit (.bool true)], args := [d1, d2] }
  | _ => none }
def fnPagesRow : OpenClaim := { program := "ytbagliaelolhcaa", sum := "4fb8135145b5191ce277c8e7758d568e1e7d55d22b3d6c0b476ca1577382b5b5", func := "loop.example/g00940/laws.FnPages", spec := "fnPages", recurses := true, apart := false }
def FnPagesSaid : Prop := fnPagesRow.holds Try.pinned (OpenSpec.ofChange fnPagesSpec)

/-- ITS FALSE NEIGHBOUR: 'it returns false'. Refute it at one input. -/
def fnPagesWrong : ChangeSpec := { name := "fnPages", fn := fun _ => fun
  | [d1, d2] => { results := [.lit (.bool false)], args := [d1, d2] }
  | _ => none }
def FnPagesWrongFalsely : Prop := fnPagesRow.holds Try.pinned (OpenSpec.ofChange fnPagesWrong)

/-- 'laws.FnSecretMessages': WHATEVER THE INPUT: true; the input reads as it did. -/
def fnSecretMessagesSpec : ChangeSpec := { name := "fnSecretMessages", fn := fun _ => fun
  | [d1, d2] => { results := [.lit (.bool true)], args := [d1, d2] }
  | _ => none }
def fnSecretMessagesRow : OpenClaim := { program := "ytbagliaelolhcaa", sum := "4fb8135145b5191ce277c8e7758d568e1e7d55d22b3d6c0b476ca1577382b5b5", func := "loop.example/g00940/laws.FnSecretMessages", spec := "fnSecretMessages", recurses := true, apart := false }
def FnSecretMessagesSaid : Prop := fnSecretMessagesRow.holds Try.pinned (OpenSpec.ofChange fnSecretMessagesSpec)

/-- ITS FALSE NEIGHBOUR: 'it returns false'. Refute it at one input. -/
def fnSecretMessagesWrong : ChangeSpec := { name := "fnSecretMessages", fn := fun _ => fun
  | [d1, d2] => { results := [.lit (.bool false)], args := [d1, d2] }
  | _ => none }
def FnSecretMessagesWrongFalsely : Prop := fnSecretMessagesRow.holds Try.pinned (OpenSpec.ofChange fnSecretMessagesWrong)

/- THE SECOND FORM. 'bulk': how many values and letters a reading holds, each counted each time it is reached (what is shared counts as often as it is met; a slice's spare places count too). A statement '..UptoSaid' is the law's where the arguments, and the package variables that the reading takes, are together of bulk at most 1048576: NARROWER than '..Said'. Prove '..Said' where nothing that the law and all that it calls make is longer than what came in: it says more and counts as full. Else prove '..UptoSaid'. A law counts once. -/
mutual
def uptoBulk {H : Type} : DataW H → Nat
  | .lit (.string bytes) => bytes.length + 1
  | .lit _ => 1
  | .nil => 1
  | .ptr d => uptoBulk d + 1
  | .slice elems spare => uptoBulkAll elems + uptoBulkAll spare + 1
  | .agg parts => uptoBulkAll parts + 1
  | .iface _ d => uptoBulk d + 1
  | .map entries => uptoBulkEntries entries + 1
  | .held _ => 1
def uptoBulkAll {H : Type} : List (DataW H) → Nat
  | [] => 0
  | d :: r => uptoBulk d + uptoBulkAll r
def uptoBulkEntries {H : Type} : List (Lit × DataW H) → Nat
  | [] => 0
  | x :: r => uptoBulkEntry x + uptoBulkEntries r
def uptoBulkEntry {H : Type} : Lit × DataW H → Nat
  | (.string bytes, d) => bytes.length + uptoBulk d + 1
  | (_, d) => uptoBulk d + 1
 end
def uptoSmall : (H : Type) → List (DataW H) → Bool := fun _ ds => decide (uptoBulkAll ds ≤ 1048576)
def OpenSpec.upto (s : _root_.Go.ChangeSpec) : _root_.Go.OpenSpec := { _root_.Go.OpenSpec.ofChange s with cond := some uptoSmall }

/-- 'laws.FnExactLostCount', WHERE WHAT IT READS IS OF BULK AT MOST 1048576: true; the input reads as it did. -/
def fnExactLostCountUptoRow : OpenClaim := { program := "ytbagliaelolhcaa", sum := "4fb8135145b5191ce277c8e7758d568e1e7d55d22b3d6c0b476ca1577382b5b5", func := "loop.example/g00940/laws.FnExactLostCount", spec := "fnExactLostCount", unfollowed := true, recurses := true, apart := false, narrowed := true }
def FnExactLostCountUptoSaid : Prop := fnExactLostCountUptoRow.holds Try.pinned (OpenSpec.upto fnExactLostCountSpec)

/-- 'laws.FnExactFitsBetween', WHERE WHAT IT READS IS OF BULK AT MOST 1048576: true; the input reads as it did. -/
def fnExactFitsBetweenUptoRow : OpenClaim := { program := "ytbagliaelolhcaa", sum := "4fb8135145b5191ce277c8e7758d568e1e7d55d22b3d6c0b476ca1577382b5b5", func := "loop.example/g00940/laws.FnExactFitsBetween", spec := "fnExactFitsBetween", unfollowed := true, recurses := true, apart := false, narrowed := true }
def FnExactFitsBetweenUptoSaid : Prop := fnExactFitsBetweenUptoRow.holds Try.pinned (OpenSpec.upto fnExactFitsBetweenSpec)

/-- 'laws.FnExactEntriesFrom', WHERE WHAT IT READS IS OF BULK AT MOST 1048576: true; the input reads as it did. -/
def fnExactEntriesFromUptoRow : OpenClaim := { program := "ytbagliaelolhcaa", sum := "4fb8135145b5191ce277c8e7758d568e1e7d55d22b3d6c0b476ca1577382b5b5", func := "loop.example/g00940/laws.FnExactEntriesFrom", spec := "fnExactEntriesFrom", unfollowed := true, recurses := true, apart := false, narrowed := true }
def FnExactEntriesFromUptoSaid : Prop := fnExactEntriesFromUptoRow.holds Try.pinned (OpenSpec.upto fnExactEntriesFromSpec)

/-- 'laws.FnExactAppendEntry', WHERE WHAT IT READS IS OF BULK AT MOST 1048576: true; the input reads as it did. -/
def fnExactAppendEntryUptoRow : OpenClaim := { program := "ytbagliaelolhcaa", sum := "4fb8135145b5191ce277c8e7758d568e1e7d55d22b3d6c0b476ca1577382b5b5", func := "loop.example/g00940/laws.FnExactAppendEntry", spec := "fnExactAppendEntry", unfollowed := true, recurses := true, apart := false, narrowed := true }
def FnExactAppendEntryUptoSaid : Prop := fnExactAppendEntryUptoRow.holds Try.pinned (OpenSpec.upto fnExactAppendEntrySpec)

/-- 'laws.FnExactJoinLogs', WHERE WHAT IT READS IS OF BULK AT MOST 1048576: true; the input reads as it did. -/
def fnExactJoinLogsUptoRow : OpenClaim := { program := "ytbagliaelolhcaa", sum := "4fb8135145b5191ce277c8e7758d568e1e7d55d22b3d6c0b476ca1577382b5b5", func := "loop.example/g00940/laws.FnExactJoinLogs", spec := "fnExactJoinLogs", unfollowed := true, recurses := true, apart := false, narrowed := true }
def FnExactJoinLogsUptoSaid : Prop := fnExactJoinLogsUptoRow.holds Try.pinned (OpenSpec.upto fnExactJoinLogsSpec)

/-- 'laws.FnLogParts', WHERE WHAT IT READS IS OF BULK AT MOST 1048576: true; the input reads as it did. -/
def fnLogPartsUptoRow : OpenClaim := { program := "ytbagliaelolhcaa", sum := "4fb8135145b5191ce277c8e7758d568e1e7d55d22b3d6c0b476ca1577382b5b5", func := "loop.example/g00940/laws.FnLogParts", spec := "fnLogParts", unfollowed := true, recurses := true, apart := false, narrowed := true }
def FnLogPartsUptoSaid : Prop := fnLogPartsUptoRow.holds Try.pinned (OpenSpec.upto fnLogPartsSpec)

/-- 'laws.FnTraces', WHERE WHAT IT READS IS OF BULK AT MOST 1048576: true; the input reads as it did. -/
def fnTracesUptoRow : OpenClaim := { program := "ytbagliaelolhcaa", sum := "4fb8135145b5191ce277c8e7758d568e1e7d55d22b3d6c0b476ca1577382b5b5", func := "loop.example/g00940/laws.FnTraces", spec := "fnTraces", unfollowed := true, recurses := true, apart := false, narrowed := true }
def FnTracesUptoSaid : Prop := fnTracesUptoRow.holds Try.pinned (OpenSpec.upto fnTracesSpec)

/-- 'laws.FnPages', WHERE WHAT IT READS IS OF BULK AT MOST 1048576: true; the input reads as it did. -/
def fnPagesUptoRow : OpenClaim := { program := "ytbagliaelolhcaa", sum := "4fb8135145b5191ce277c8e7758d568e1e7d55d22b3d6c0b476ca1577382b5b5", func := "loop.example/g00940/laws.FnPages", spec := "fnPages", recurses := true, apart := false, narrowed := true }
def FnPagesUptoSaid : Prop := fnPagesUptoRow.holds Try.pinned (OpenSpec.upto fnPagesSpec)

/-- 'laws.FnSecretMessages', WHERE WHAT IT READS IS OF BULK AT MOST 1048576: true; the input reads as it did. -/
def fnSecretMessagesUptoRow : OpenClaim := { program := "ytbagliaelolhcaa", sum := "4fb8135145b5191ce277c8e7758d568e1e7d55d22b3d6c0b476ca1577382b5b5", func := "loop.example/g00940/laws.FnSecretMessages", spec := "fnSecretMessages", recurses := true, apart := false, narrowed := true }
def FnSecretMessagesUptoSaid : Prop := fnSecretMessagesUptoRow.holds Try.pinned (OpenSpec.upto fnSecretMessagesSpec)

end Rows
end Go.Proofs.Ytbagliaelolhcaa

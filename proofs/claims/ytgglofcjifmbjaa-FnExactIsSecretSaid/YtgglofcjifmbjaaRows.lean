/-
  No cell of these rows narrows 'for every input' (looked for: loops, veiled, ifaces, maps, wideKeys, modest, calm, conditions, laid).
  DERIVED. THE GIVEN ROWS OF THIS SEAT. 9 by the template 'for every input the law returns true; each argument reads behind the call as it read before'; 0 by the template 'total and deterministic' (their statements: YtgglofcjifmbjaaTotals.lean).
  GIVEN WITH THE SEED: the statements are not yours to turn. If you find one false, say at which input.
  Laid BY PROGRAM, IN A SANDBOX (cutbox-rows.mjs): the forced cells as the released guide's own fill.sh prints them over the translation 0e83f2d322e88c6a… (all of the seat's roots in one cut). By AI agents, Wed Nov 11 2026. No macro, syntax, notation, axiom, sorry.
-/
import Derived.Test.YtgglofcjifmbjaaChecked
import GoSem.Claim
import GoSem.ClaimJoined
import GoSem.ClaimMapViews
import Derived.JoinedTies
import Derived.KernelRfl
namespace Go.Proofs.Ytgglofcjifmbjaa
/- THE CELL 'sum', in the pinned program and in every row, IS THE sha256 OF THE DUMP (.gsa) THAT YtgglofcjifmbjaaProg.lean LOADS. Nothing in Lean hashes anything: it is a label: what it is worth is what the hold of that sum in a sandbox is worth. -/
noncomputable def Try.pinned : Pinned := { name := "ytgglofcjifmbjaa", sum := "0e83f2d322e88c6a014a98f610d0c3a090e709918467728bf83d9b1963c079ad", checked := Try.checked }
namespace Rows
def none {H : Type} : Left H := { results := [], args := [] }

/-- 'laws.FnExactPairFaults': WHATEVER THE INPUT: true; the input reads as it did. -/
def fnExactPairFaultsSpec : ChangeSpec := { name := "fnExactPairFaults", fn := fun _ => fun
  | [d1, d2] => { results := [.lit (.bool true)], args := [d1, d2] }
  | _ => none }
def fnExactPairFaultsRow : OpenClaim := { program := "ytgglofcjifmbjaa", sum := "0e83f2d322e88c6a014a98f610d0c3a090e709918467728bf83d9b1963c079ad", func := "loop.example/g00940/laws.FnExactPairFaults", spec := "fnExactPairFaults", unfollowed := true, recurses := true, apart := false }
def FnExactPairFaultsSaid : Prop := fnExactPairFaultsRow.holds Try.pinned (OpenSpec.ofChange fnExactPairFaultsSpec)

/-- ITS FALSE NEIGHBOUR: 'it returns false'. Refute it at one input. -/
def fnExactPairFaultsWrong : ChangeSpec := { name := "fnExactPairFaults", fn := fun _ => fun
  | [d1, d2] => { results := [.lit (.bool false)], args := [d1, d2] }
  | _ => none }
def FnExactPairFaultsWrongFalsely : Prop := fnExactPairFaultsRow.holds Try.pinned (OpenSpec.ofChange fnExactPairFaultsWrong)

/-- 'laws.FnExactTraceOf': WHATEVER THE INPUT: true; the input reads as it did. -/
def fnExactTraceOfSpec : ChangeSpec := { name := "fnExactTraceOf", fn := fun _ => fun
  | [d1, d2, d3] => { results := [.lit (.bool true)], args := [d1, d2, d3] }
  | _ => none }
def fnExactTraceOfRow : OpenClaim := { program := "ytgglofcjifmbjaa", sum := "0e83f2d322e88c6a014a98f610d0c3a090e709918467728bf83d9b1963c079ad", func := "loop.example/g00940/laws.FnExactTraceOf", spec := "fnExactTraceOf", unfollowed := true, recurses := true, apart := false }
def FnExactTraceOfSaid : Prop := fnExactTraceOfRow.holds Try.pinned (OpenSpec.ofChange fnExactTraceOfSpec)

/-- ITS FALSE NEIGHBOUR: 'it returns false'. Refute it at one input. -/
def fnExactTraceOfWrong : ChangeSpec := { name := "fnExactTraceOf", fn := fun _ => fun
  | [d1, d2, d3] => { results := [.lit (.bool false)], args := [d1, d2, d3] }
  | _ => none }
def FnExactTraceOfWrongFalsely : Prop := fnExactTraceOfRow.holds Try.pinned (OpenSpec.ofChange fnExactTraceOfWrong)

/-- 'laws.FnExactIsTrueLine': WHATEVER THE INPUT: true; the input reads as it did. -/
def fnExactIsTrueLineSpec : ChangeSpec := { name := "fnExactIsTrueLine", fn := fun _ => fun
  | [d] => { results := [.lit (.bool true)], args := [d] }
  | _ => none }
def fnExactIsTrueLineRow : OpenClaim := { program := "ytgglofcjifmbjaa", sum := "0e83f2d322e88c6a014a98f610d0c3a090e709918467728bf83d9b1963c079ad", func := "loop.example/g00940/laws.FnExactIsTrueLine", spec := "fnExactIsTrueLine", unfollowed := true, recurses := true, apart := false }
def FnExactIsTrueLineSaid : Prop := fnExactIsTrueLineRow.holds Try.pinned (OpenSpec.ofChange fnExactIsTrueLineSpec)

/-- ITS FALSE NEIGHBOUR: 'it returns false'. Refute it at one input. -/
def fnExactIsTrueLineWrong : ChangeSpec := { name := "fnExactIsTrueLine", fn := fun _ => fun
  | [d] => { results := [.lit (.bool false)], args := [d] }
  | _ => none }
def FnExactIsTrueLineWrongFalsely : Prop := fnExactIsTrueLineRow.holds Try.pinned (OpenSpec.ofChange fnExactIsTrueLineWrong)

/-- 'laws.FnExactFirstFault': WHATEVER THE INPUT: true; the input reads as it did. -/
def fnExactFirstFaultSpec : ChangeSpec := { name := "fnExactFirstFault", fn := fun _ => fun
  | [d1, d2, d3] => { results := [.lit (.bool true)], args := [d1, d2, d3] }
  | _ => none }
def fnExactFirstFaultRow : OpenClaim := { program := "ytgglofcjifmbjaa", sum := "0e83f2d322e88c6a014a98f610d0c3a090e709918467728bf83d9b1963c079ad", func := "loop.example/g00940/laws.FnExactFirstFault", spec := "fnExactFirstFault", unfollowed := true, recurses := true, apart := false }
def FnExactFirstFaultSaid : Prop := fnExactFirstFaultRow.holds Try.pinned (OpenSpec.ofChange fnExactFirstFaultSpec)

/-- ITS FALSE NEIGHBOUR: 'it returns false'. Refute it at one input. -/
def fnExactFirstFaultWrong : ChangeSpec := { name := "fnExactFirstFault", fn := fun _ => fun
  | [d1, d2, d3] => { results := [.lit (.bool false)], args := [d1, d2, d3] }
  | _ => none }
def FnExactFirstFaultWrongFalsely : Prop := fnExactFirstFaultRow.holds Try.pinned (OpenSpec.ofChange fnExactFirstFaultWrong)

/-- 'laws.FnExactMostSuspect': WHATEVER THE INPUT: true; the input reads as it did. -/
def fnExactMostSuspectSpec : ChangeSpec := { name := "fnExactMostSuspect", fn := fun _ => fun
  | [d] => { results := [.lit (.bool true)], args := [d] }
  | _ => none }
def fnExactMostSuspectRow : OpenClaim := { program := "ytgglofcjifmbjaa", sum := "0e83f2d322e88c6a014a98f610d0c3a090e709918467728bf83d9b1963c079ad", func := "loop.example/g00940/laws.FnExactMostSuspect", spec := "fnExactMostSuspect", unfollowed := true, recurses := true, apart := false }
def FnExactMostSuspectSaid : Prop := fnExactMostSuspectRow.holds Try.pinned (OpenSpec.ofChange fnExactMostSuspectSpec)

/-- ITS FALSE NEIGHBOUR: 'it returns false'. Refute it at one input. -/
def fnExactMostSuspectWrong : ChangeSpec := { name := "fnExactMostSuspect", fn := fun _ => fun
  | [d] => { results := [.lit (.bool false)], args := [d] }
  | _ => none }
def FnExactMostSuspectWrongFalsely : Prop := fnExactMostSuspectRow.holds Try.pinned (OpenSpec.ofChange fnExactMostSuspectWrong)

/-- 'laws.FnExactFaultCounts': WHATEVER THE INPUT: true; the input reads as it did. -/
def fnExactFaultCountsSpec : ChangeSpec := { name := "fnExactFaultCounts", fn := fun _ => fun
  | [d] => { results := [.lit (.bool true)], args := [d] }
  | _ => none }
def fnExactFaultCountsRow : OpenClaim := { program := "ytgglofcjifmbjaa", sum := "0e83f2d322e88c6a014a98f610d0c3a090e709918467728bf83d9b1963c079ad", func := "loop.example/g00940/laws.FnExactFaultCounts", spec := "fnExactFaultCounts", unfollowed := true, recurses := true, apart := false }
def FnExactFaultCountsSaid : Prop := fnExactFaultCountsRow.holds Try.pinned (OpenSpec.ofChange fnExactFaultCountsSpec)

/-- ITS FALSE NEIGHBOUR: 'it returns false'. Refute it at one input. -/
def fnExactFaultCountsWrong : ChangeSpec := { name := "fnExactFaultCounts", fn := fun _ => fun
  | [d] => { results := [.lit (.bool false)], args := [d] }
  | _ => none }
def FnExactFaultCountsWrongFalsely : Prop := fnExactFaultCountsRow.holds Try.pinned (OpenSpec.ofChange fnExactFaultCountsWrong)

/-- 'laws.FnExactLineFaults': WHATEVER THE INPUT: true; the input reads as it did. -/
def fnExactLineFaultsSpec : ChangeSpec := { name := "fnExactLineFaults", fn := fun _ => fun
  | [d] => { results := [.lit (.bool true)], args := [d] }
  | _ => none }
def fnExactLineFaultsRow : OpenClaim := { program := "ytgglofcjifmbjaa", sum := "0e83f2d322e88c6a014a98f610d0c3a090e709918467728bf83d9b1963c079ad", func := "loop.example/g00940/laws.FnExactLineFaults", spec := "fnExactLineFaults", unfollowed := true, recurses := true, apart := false }
def FnExactLineFaultsSaid : Prop := fnExactLineFaultsRow.holds Try.pinned (OpenSpec.ofChange fnExactLineFaultsSpec)

/-- ITS FALSE NEIGHBOUR: 'it returns false'. Refute it at one input. -/
def fnExactLineFaultsWrong : ChangeSpec := { name := "fnExactLineFaults", fn := fun _ => fun
  | [d] => { results := [.lit (.bool false)], args := [d] }
  | _ => none }
def FnExactLineFaultsWrongFalsely : Prop := fnExactLineFaultsRow.holds Try.pinned (OpenSpec.ofChange fnExactLineFaultsWrong)

/-- 'laws.FnExactJoinLogs': WHATEVER THE INPUT: true; the input reads as it did. -/
def fnExactJoinLogsSpec : ChangeSpec := { name := "fnExactJoinLogs", fn := fun _ => fun
  | [d1, d2] => { results := [.lit (.bool true)], args := [d1, d2] }
  | _ => none }
def fnExactJoinLogsRow : OpenClaim := { program := "ytgglofcjifmbjaa", sum := "0e83f2d322e88c6a014a98f610d0c3a090e709918467728bf83d9b1963c079ad", func := "loop.example/g00940/laws.FnExactJoinLogs", spec := "fnExactJoinLogs", unfollowed := true, recurses := true, apart := false }
def FnExactJoinLogsSaid : Prop := fnExactJoinLogsRow.holds Try.pinned (OpenSpec.ofChange fnExactJoinLogsSpec)

/-- ITS FALSE NEIGHBOUR: 'it returns false'. Refute it at one input. -/
def fnExactJoinLogsWrong : ChangeSpec := { name := "fnExactJoinLogs", fn := fun _ => fun
  | [d1, d2] => { results := [.lit (.bool false)], args := [d1, d2] }
  | _ => none }
def FnExactJoinLogsWrongFalsely : Prop := fnExactJoinLogsRow.holds Try.pinned (OpenSpec.ofChange fnExactJoinLogsWrong)

/-- 'laws.FnExactIsSecret': WHATEVER THE INPUT: true; the input reads as it did. -/
def fnExactIsSecretSpec : ChangeSpec := { name := "fnExactIsSecret", fn := fun _ => fun
  | [d] => { results := [.lit (.bool true)], args := [d] }
  | _ => none }
def fnExactIsSecretRow : OpenClaim := { program := "ytgglofcjifmbjaa", sum := "0e83f2d322e88c6a014a98f610d0c3a090e709918467728bf83d9b1963c079ad", func := "loop.example/g00940/laws.FnExactIsSecret", spec := "fnExactIsSecret", recurses := true, apart := false }
def FnExactIsSecretSaid : Prop := fnExactIsSecretRow.holds Try.pinned (OpenSpec.ofChange fnExactIsSecretSpec)

/-- ITS FALSE NEIGHBOUR: 'it returns false'. Refute it at one input. -/
def fnExactIsSecretWrong : ChangeSpec := { name := "fnExactIsSecret", fn := fun _ => fun
  | [d] => { results := [.lit (.bool false)], args := [d] }
  | _ => none }
def FnExactIsSecretWrongFalsely : Prop := fnExactIsSecretRow.holds Try.pinned (OpenSpec.ofChange fnExactIsSecretWrong)

/- THE SECOND FORM. 'bulk': how many values and letters a reading holds, each counted each time it is reached (what is shared counts as often as it is met; a slice's spare places count too). A statement '..UptoSaid' is the law's where the arguments, and the package variables that the reading takes, are together of bulk at most 1048576: NARROWER than '..Said'. Prove '..Said' where nothing that the law and all that it calls make is longer than what came in: it says more and counts as full. Else prove '..UptoSaid'. A law counts once. -/
mutual
def uptoBulk {H : Type} : DataW H → Nat
  | .lit (.string bytes) => bytes.length + 1
  | .lit _ => 1
  | .nil => 1
  | .ptr d => uptoBulk d + 1
  | .slice elems spare => uptoBulkAll elems + uptoBulkAll spare + 1
  | .agg parts => uptoBulkAll parts + 1
  | .iface _ d => uptoBulk d + 1
  | .map entries => uptoBulkEntries entries + 1
  | .held _ => 1
def uptoBulkAll {H : Type} : List (DataW H) → Nat
  | [] => 0
  | d :: r => uptoBulk d + uptoBulkAll r
def uptoBulkEntries {H : Type} : List (Lit × DataW H) → Nat
  | [] => 0
  | x :: r => uptoBulkEntry x + uptoBulkEntries r
def uptoBulkEntry {H : Type} : Lit × DataW H → Nat
  | (.string bytes, d) => bytes.length + uptoBulk d + 1
  | (_, d) => uptoBulk d + 1
 end
def uptoSmall : (H : Type) → List (DataW H) → Bool := fun _ ds => decide (uptoBulkAll ds ≤ 1048576)
def OpenSpec.upto (s : _root_.Go.ChangeSpec) : _root_.Go.OpenSpec := { _root_.Go.OpenSpec.ofChange s with cond := some uptoSmall }

/-- 'laws.FnExactPairFaults', WHERE WHAT IT READS IS OF BULK AT MOST 1048576: true; the input reads as it did. -/
def fnExactPairFaultsUptoRow : OpenClaim := { program := "ytgglofcjifmbjaa", sum := "0e83f2d322e88c6a014a98f610d0c3a090e709918467728bf83d9b1963c079ad", func := "loop.example/g00940/laws.FnExactPairFaults", spec := "fnExactPairFaults", unfollowed := true, recurses := true, apart := false, narrowed := true }
def FnExactPairFaultsUptoSaid : Prop := fnExactPairFaultsUptoRow.holds Try.pinned (OpenSpec.upto fnExactPairFaultsSpec)

/-- 'laws.FnExactTraceOf', WHERE WHAT IT READS IS OF BULK AT MOST 1048576: true; the input reads as it did. -/
def fnExactTraceOfUptoRow : OpenClaim := { program := "ytgglofcjifmbjaa", sum := "0e83f2d322e88c6a014a98f610d0c3a090e709918467728bf83d9b1963c079ad", func := "loop.example/g00940/laws.FnExactTraceOf", spec := "fnExactTraceOf", unfollowed := true, recurses := true, apart := false, narrowed := true }
def FnExactTraceOfUptoSaid : Prop := fnExactTraceOfUptoRow.holds Try.pinned (OpenSpec.upto fnExactTraceOfSpec)

/-- 'laws.FnExactIsTrueLine', WHERE WHAT IT READS IS OF BULK AT MOST 1048576: true; the input reads as it did. -/
def fnExactIsTrueLineUptoRow : OpenClaim := { program := "ytgglofcjifmbjaa", sum := "0e83f2d322e88c6a014a98f610d0c3a090e709918467728bf83d9b1963c079ad", func := "loop.example/g00940/laws.FnExactIsTrueLine", spec := "fnExactIsTrueLine", unfollowed := true, recurses := true, apart := false, narrowed := true }
def FnExactIsTrueLineUptoSaid : Prop := fnExactIsTrueLineUptoRow.holds Try.pinned (OpenSpec.upto fnExactIsTrueLineSpec)

/-- 'laws.FnExactFirstFault', WHERE WHAT IT READS IS OF BULK AT MOST 1048576: true; the input reads as it did. -/
def fnExactFirstFaultUptoRow : OpenClaim := { program := "ytgglofcjifmbjaa", sum := "0e83f2d322e88c6a014a98f610d0c3a090e709918467728bf83d9b1963c079ad", func := "loop.example/g00940/laws.FnExactFirstFault", spec := "fnExactFirstFault", unfollowed := true, recurses := true, apart := false, narrowed := true }
def FnExactFirstFaultUptoSaid : Prop := fnExactFirstFaultUptoRow.holds Try.pinned (OpenSpec.upto fnExactFirstFaultSpec)

/-- 'laws.FnExactMostSuspect', WHERE WHAT IT READS IS OF BULK AT MOST 1048576: true; the input reads as it did. -/
def fnExactMostSuspectUptoRow : OpenClaim := { program := "ytgglofcjifmbjaa", sum := "0e83f2d322e88c6a014a98f610d0c3a090e709918467728bf83d9b1963c079ad", func := "loop.example/g00940/laws.FnExactMostSuspect", spec := "fnExactMostSuspect", unfollowed := true, recurses := true, apart := false, narrowed := true }
def FnExactMostSuspectUptoSaid : Prop := fnExactMostSuspectUptoRow.holds Try.pinned (OpenSpec.upto fnExactMostSuspectSpec)

/-- 'laws.FnExactFaultCounts', WHERE WHAT IT READS IS OF BULK AT MOST 1048576: true; the input reads as it did. -/
def fnExactFaultCountsUptoRow : OpenClaim := { program := "ytgglofcjifmbjaa", sum := "0e83f2d322e88c6a014a98f610d0c3a090e709918467728bf83d9b1963c079ad", func := "loop.example/g00940/laws.FnExactFaultCounts", spec := "fnExactFaultCounts", unfollowed := true, recurses := true, apart := false, narrowed := true }
def FnExactFaultCountsUptoSaid : Prop := fnExactFaultCountsUptoRow.holds Try.pinned (OpenSpec.upto fnExactFaultCountsSpec)

/-- 'laws.FnExactLineFaults', WHERE WHAT IT READS IS OF BULK AT MOST 1048576: true; the input reads as it did. -/
def fnExactLineFaultsUptoRow : OpenClaim := { program := "ytgglofcjifmbjaa", sum := "0e83f2d322e88c6a014a98f610d0c3a090e709918467728bf83d9b1963c079ad", func := "loop.example/g00940/laws.FnExactLineFaults", spec := "fnExactLineFaults", unfollowed := true, recurses := true, apart := false, narrowed := true }
def FnExactLineFaultsUptoSaid : Prop := fnExactLineFaultsUptoRow.holds Try.pinned (OpenSpec.upto fnExactLineFaultsSpec)

/-- 'laws.FnExactJoinLogs', WHERE WHAT IT READS IS OF BULK AT MOST 1048576: true; the input reads as it did. -/
def fnExactJoinLogsUptoRow : OpenClaim := { program := "ytgglofcjifmbjaa", sum := "0e83f2d322e88c6a014a98f610d0c3a090e709918467728bf83d9b1963c079ad", func := "loop.example/g00940/laws.FnExactJoinLogs", spec := "fnExactJoinLogs", unfollowed := true, recurses := true, apart := false, narrowed := true }
def FnExactJoinLogsUptoSaid : Prop := fnExactJoinLogsUptoRow.holds Try.pinned (OpenSpec.upto fnExactJoinLogsSpec)

/-- 'laws.FnExactIsSecret', WHERE WHAT IT READS IS OF BULK AT MOST 1048576: true; the input reads as it did. -/
def fnExactIsSecretUptoRow : OpenClaim := { program := "ytgglofcjifmbjaa", sum := "0e83f2d322e88c6a014a98f610d0c3a090e709918467728bf83d9b1963c079ad", func := "loop.example/g00940/laws.FnExactIsSecret", spec := "fnExactIsSecret", recurses := true, apart := false, narrowed := true }
def FnExactIsSecretUptoSaid : Prop := fnExactIsSecretUptoRow.holds Try.pinned (OpenSpec.upto fnExactIsSecretSpec)

end Rows
end Go.Proofs.Ytgglofcjifmbjaa

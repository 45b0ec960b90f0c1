/-
  No cell of these rows narrows 'for every input' (looked for: loops, veiled, ifaces, maps, wideKeys, modest, calm, conditions, laid).
  DERIVED. THE GIVEN ROWS OF THIS SEAT. 11 by the template 'for every input the law returns true; each argument reads behind the call as it read before'; 0 by the template 'total and deterministic' (their statements: YtbdgbllmpmbceaaTotals.lean).
  GIVEN WITH THE SEED: the statements are not yours to turn. If you find one false, say at which input.
  Laid BY PROGRAM, IN A SANDBOX (cutbox-rows.mjs): the forced cells as the released guide's own fill.sh prints them over the translation 5dfafcd7a3b643eb… (all of the seat's roots in one cut). By AI agents, Wed Nov 11 2026. No macro, syntax, notation, axiom, sorry.
-/
import Derived.Test.YtbdgbllmpmbceaaChecked
import GoSem.Claim
import GoSem.ClaimJoined
import GoSem.ClaimMapViews
import Derived.JoinedTies
import Derived.KernelRfl
namespace Go.Proofs.Ytbdgbllmpmbceaa
/- THE CELL 'sum', in the pinned program and in every row, IS THE sha256 OF THE DUMP (.gsa) THAT YtbdgbllmpmbceaaProg.lean LOADS. Nothing in Lean hashes anything: it is a label: what it is worth is what the hold of that sum in a sandbox is worth. -/
noncomputable def Try.pinned : Pinned := { name := "ytbdgbllmpmbceaa", sum := "5dfafcd7a3b643eb03b401f6472ada5bfaf02f95e7e44bd74b6695ee866a4d99", checked := Try.checked }
namespace Rows
def none {H : Type} : Left H := { results := [], args := [] }

/-- 'laws.FnExactNeededPages': WHATEVER THE INPUT: true; the input reads as it did. -/
def fnExactNeededPagesSpec : ChangeSpec := { name := "fnExactNeededPages", fn := fun _ => fun
  | [d] => { results := [.lit (.bool true)], args := [d] }
  | _ => none }
def fnExactNeededPagesRow : OpenClaim := { program := "ytbdgbllmpmbceaa", sum := "5dfafcd7a3b643eb03b401f6472ada5bfaf02f95e7e44bd74b6695ee866a4d99", func := "loop.example/g00940/laws.FnExactNeededPages", spec := "fnExactNeededPages", apart := false }
def FnExactNeededPagesSaid : Prop := fnExactNeededPagesRow.holds Try.pinned (OpenSpec.ofChange fnExactNeededPagesSpec)

/-- ITS FALSE NEIGHBOUR: 'it returns false'. Refute it at one input. -/
def fnExactNeededPagesWrong : ChangeSpec := { name := "fnExactNeededPages", fn := fun _ => fun
  | [d] => { results := [.lit (.bool false)], args := [d] }
  | _ => none }
def FnExactNeededPagesWrongFalsely : Prop := fnExactNeededPagesRow.holds Try.pinned (OpenSpec.ofChange fnExactNeededPagesWrong)

/-- 'laws.FnExactPageMix': WHATEVER THE INPUT: true; the input reads as it did. -/
def fnExactPageMixSpec : ChangeSpec := { name := "fnExactPageMix", fn := fun _ => fun
  | [d] => { results := [.lit (.bool true)], args := [d] }
  | _ => none }
def fnExactPageMixRow : OpenClaim := { program := "ytbdgbllmpmbceaa", sum := "5dfafcd7a3b643eb03b401f6472ada5bfaf02f95e7e44bd74b6695ee866a4d99", func := "loop.example/g00940/laws.FnExactPageMix", spec := "fnExactPageMix", apart := false }
def FnExactPageMixSaid : Prop := fnExactPageMixRow.holds Try.pinned (OpenSpec.ofChange fnExactPageMixSpec)

/-- ITS FALSE NEIGHBOUR: 'it returns false'. Refute it at one input. -/
def fnExactPageMixWrong : ChangeSpec := { name := "fnExactPageMix", fn := fun _ => fun
  | [d] => { results := [.lit (.bool false)], args := [d] }
  | _ => none }
def FnExactPageMixWrongFalsely : Prop := fnExactPageMixRow.holds Try.pinned (OpenSpec.ofChange fnExactPageMixWrong)

/-- 'laws.FnExactIsKeyBook': WHATEVER THE INPUT: true; the input reads as it did. -/
def fnExactIsKeyBookSpec : ChangeSpec := { name := "fnExactIsKeyBook", fn := fun _ => fun
  | [d] => { results := [.lit (.bool true)], args := [d] }
  | _ => none }
def fnExactIsKeyBookRow : OpenClaim := { program := "ytbdgbllmpmbceaa", sum := "5dfafcd7a3b643eb03b401f6472ada5bfaf02f95e7e44bd74b6695ee866a4d99", func := "loop.example/g00940/laws.FnExactIsKeyBook", spec := "fnExactIsKeyBook", apart := false }
def FnExactIsKeyBookSaid : Prop := fnExactIsKeyBookRow.holds Try.pinned (OpenSpec.ofChange fnExactIsKeyBookSpec)

/-- ITS FALSE NEIGHBOUR: 'it returns false'. Refute it at one input. -/
def fnExactIsKeyBookWrong : ChangeSpec := { name := "fnExactIsKeyBook", fn := fun _ => fun
  | [d] => { results := [.lit (.bool false)], args := [d] }
  | _ => none }
def FnExactIsKeyBookWrongFalsely : Prop := fnExactIsKeyBookRow.holds Try.pinned (OpenSpec.ofChange fnExactIsKeyBookWrong)

/-- 'laws.FnExactIsEntry': WHATEVER THE INPUT: true; the input reads as it did. -/
def fnExactIsEntrySpec : ChangeSpec := { name := "fnExactIsEntry", fn := fun _ => fun
  | [d] => { results := [.lit (.bool true)], args := [d] }
  | _ => none }
def fnExactIsEntryRow : OpenClaim := { program := "ytbdgbllmpmbceaa", sum := "5dfafcd7a3b643eb03b401f6472ada5bfaf02f95e7e44bd74b6695ee866a4d99", func := "loop.example/g00940/laws.FnExactIsEntry", spec := "fnExactIsEntry", apart := false }
def FnExactIsEntrySaid : Prop := fnExactIsEntryRow.holds Try.pinned (OpenSpec.ofChange fnExactIsEntrySpec)

/-- ITS FALSE NEIGHBOUR: 'it returns false'. Refute it at one input. -/
def fnExactIsEntryWrong : ChangeSpec := { name := "fnExactIsEntry", fn := fun _ => fun
  | [d] => { results := [.lit (.bool false)], args := [d] }
  | _ => none }
def FnExactIsEntryWrongFalsely : Prop := fnExactIsEntryRow.holds Try.pinned (OpenSpec.ofChange fnExactIsEntryWrong)

/-- 'laws.FnExactPagesLeft': WHATEVER THE INPUT: true; the input reads as it did. -/
def fnExactPagesLeftSpec : ChangeSpec := { name := "fnExactPagesLeft", fn := fun _ => fun
  | [d] => { results := [.lit (.bool true)], args := [d] }
  | _ => none }
def fnExactPagesLeftRow : OpenClaim := { program := "ytbdgbllmpmbceaa", sum := "5dfafcd7a3b643eb03b401f6472ada5bfaf02f95e7e44bd74b6695ee866a4d99", func := "loop.example/g00940/laws.FnExactPagesLeft", spec := "fnExactPagesLeft", apart := false }
def FnExactPagesLeftSaid : Prop := fnExactPagesLeftRow.holds Try.pinned (OpenSpec.ofChange fnExactPagesLeftSpec)

/-- ITS FALSE NEIGHBOUR: 'it returns false'. Refute it at one input. -/
def fnExactPagesLeftWrong : ChangeSpec := { name := "fnExactPagesLeft", fn := fun _ => fun
  | [d] => { results := [.lit (.bool false)], args := [d] }
  | _ => none }
def FnExactPagesLeftWrongFalsely : Prop := fnExactPagesLeftRow.holds Try.pinned (OpenSpec.ofChange fnExactPagesLeftWrong)

/-- 'laws.FnExactDoubleUse': WHATEVER THE INPUT: true; the input reads as it did. -/
def fnExactDoubleUseSpec : ChangeSpec := { name := "fnExactDoubleUse", fn := fun _ => fun
  | [d1, d2] => { results := [.lit (.bool true)], args := [d1, d2] }
  | _ => none }
def fnExactDoubleUseRow : OpenClaim := { program := "ytbdgbllmpmbceaa", sum := "5dfafcd7a3b643eb03b401f6472ada5bfaf02f95e7e44bd74b6695ee866a4d99", func := "loop.example/g00940/laws.FnExactDoubleUse", spec := "fnExactDoubleUse", apart := false }
def FnExactDoubleUseSaid : Prop := fnExactDoubleUseRow.holds Try.pinned (OpenSpec.ofChange fnExactDoubleUseSpec)

/-- ITS FALSE NEIGHBOUR: 'it returns false'. Refute it at one input. -/
def fnExactDoubleUseWrong : ChangeSpec := { name := "fnExactDoubleUse", fn := fun _ => fun
  | [d1, d2] => { results := [.lit (.bool false)], args := [d1, d2] }
  | _ => none }
def FnExactDoubleUseWrongFalsely : Prop := fnExactDoubleUseRow.holds Try.pinned (OpenSpec.ofChange fnExactDoubleUseWrong)

/-- 'laws.FnExactKeyPage': WHATEVER THE INPUT: true; the input reads as it did. -/
def fnExactKeyPageSpec : ChangeSpec := { name := "fnExactKeyPage", fn := fun _ => fun
  | [d1, d2] => { results := [.lit (.bool true)], args := [d1, d2] }
  | _ => none }
def fnExactKeyPageRow : OpenClaim := { program := "ytbdgbllmpmbceaa", sum := "5dfafcd7a3b643eb03b401f6472ada5bfaf02f95e7e44bd74b6695ee866a4d99", func := "loop.example/g00940/laws.FnExactKeyPage", spec := "fnExactKeyPage", apart := false }
def FnExactKeyPageSaid : Prop := fnExactKeyPageRow.holds Try.pinned (OpenSpec.ofChange fnExactKeyPageSpec)

/-- ITS FALSE NEIGHBOUR: 'it returns false'. Refute it at one input. -/
def fnExactKeyPageWrong : ChangeSpec := { name := "fnExactKeyPage", fn := fun _ => fun
  | [d1, d2] => { results := [.lit (.bool false)], args := [d1, d2] }
  | _ => none }
def FnExactKeyPageWrongFalsely : Prop := fnExactKeyPageRow.holds Try.pinned (OpenSpec.ofChange fnExactKeyPageWrong)

/-- 'laws.FnExactIsLog': WHATEVER THE INPUT: true; the input reads as it did. -/
def fnExactIsLogSpec : ChangeSpec := { name := "fnExactIsLog", fn := fun _ => fun
  | [d] => { results := [.lit (.bool true)], args := [d] }
  | _ => none }
def fnExactIsLogRow : OpenClaim := { program := "ytbdgbllmpmbceaa", sum := "5dfafcd7a3b643eb03b401f6472ada5bfaf02f95e7e44bd74b6695ee866a4d99", func := "loop.example/g00940/laws.FnExactIsLog", spec := "fnExactIsLog", unfollowed := true, recurses := true, apart := false }
def FnExactIsLogSaid : Prop := fnExactIsLogRow.holds Try.pinned (OpenSpec.ofChange fnExactIsLogSpec)

/-- ITS FALSE NEIGHBOUR: 'it returns false'. Refute it at one input. -/
def fnExactIsLogWrong : ChangeSpec := { name := "fnExactIsLog", fn := fun _ => fun
  | [d] => { results := [.lit (.bool false)], args := [d] }
  | _ => none }
def FnExactIsLogWrongFalsely : Prop := fnExactIsLogRow.holds Try.pinned (OpenSpec.ofChange fnExactIsLogWrong)

/-- 'laws.FnExactSameNumbers': WHATEVER THE INPUT: true; the input reads as it did. -/
def fnExactSameNumbersSpec : ChangeSpec := { name := "fnExactSameNumbers", fn := fun _ => fun
  | [d1, d2, d3] => { results := [.lit (.bool true)], args := [d1, d2, d3] }
  | _ => none }
def fnExactSameNumbersRow : OpenClaim := { program := "ytbdgbllmpmbceaa", sum := "5dfafcd7a3b643eb03b401f6472ada5bfaf02f95e7e44bd74b6695ee866a4d99", func := "loop.example/g00940/laws.FnExactSameNumbers", spec := "fnExactSameNumbers", apart := false }
def FnExactSameNumbersSaid : Prop := fnExactSameNumbersRow.holds Try.pinned (OpenSpec.ofChange fnExactSameNumbersSpec)

/-- ITS FALSE NEIGHBOUR: 'it returns false'. Refute it at one input. -/
def fnExactSameNumbersWrong : ChangeSpec := { name := "fnExactSameNumbers", fn := fun _ => fun
  | [d1, d2, d3] => { results := [.lit (.bool false)], args := [d1, d2, d3] }
  | _ => none }
def FnExactSameNumbersWrongFalsely : Prop := fnExactSameNumbersRow.holds Try.pinned (OpenSpec.ofChange fnExactSameNumbersWrong)

/-- 'laws.FnExactFindEntry': WHATEVER THE INPUT: true; the input reads as it did. -/
def fnExactFindEntrySpec : ChangeSpec := { name := "fnExactFindEntry", fn := fun _ => fun
  | [d1, d2, d3] => { results := [.lit (.bool true)], args := [d1, d2, d3] }
  | _ => none }
def fnExactFindEntryRow : OpenClaim := { program := "ytbdgbllmpmbceaa", sum := "5dfafcd7a3b643eb03b401f6472ada5bfaf02f95e7e44bd74b6695ee866a4d99", func := "loop.example/g00940/laws.FnExactFindEntry", spec := "fnExactFindEntry", unfollowed := true, recurses := true, apart := false }
def FnExactFindEntrySaid : Prop := fnExactFindEntryRow.holds Try.pinned (OpenSpec.ofChange fnExactFindEntrySpec)

/-- ITS FALSE NEIGHBOUR: 'it returns false'. Refute it at one input. -/
def fnExactFindEntryWrong : ChangeSpec := { name := "fnExactFindEntry", fn := fun _ => fun
  | [d1, d2, d3] => { results := [.lit (.bool false)], args := [d1, d2, d3] }
  | _ => none }
def FnExactFindEntryWrongFalsely : Prop := fnExactFindEntryRow.holds Try.pinned (OpenSpec.ofChange fnExactFindEntryWrong)

/-- 'laws.FnExactShownSignals': WHATEVER THE INPUT: true; the input reads as it did. -/
def fnExactShownSignalsSpec : ChangeSpec := { name := "fnExactShownSignals", fn := fun _ => fun
  | [d] => { results := [.lit (.bool true)], args := [d] }
  | _ => none }
def fnExactShownSignalsRow : OpenClaim := { program := "ytbdgbllmpmbceaa", sum := "5dfafcd7a3b643eb03b401f6472ada5bfaf02f95e7e44bd74b6695ee866a4d99", func := "loop.example/g00940/laws.FnExactShownSignals", spec := "fnExactShownSignals", unfollowed := true, recurses := true, apart := false }
def FnExactShownSignalsSaid : Prop := fnExactShownSignalsRow.holds Try.pinned (OpenSpec.ofChange fnExactShownSignalsSpec)

/-- ITS FALSE NEIGHBOUR: 'it returns false'. Refute it at one input. -/
def fnExactShownSignalsWrong : ChangeSpec := { name := "fnExactShownSignals", fn := fun _ => fun
  | [d] => { results := [.lit (.bool false)], args := [d] }
  | _ => none }
def FnExactShownSignalsWrongFalsely : Prop := fnExactShownSignalsRow.holds Try.pinned (OpenSpec.ofChange fnExactShownSignalsWrong)

/- THE SECOND FORM. 'bulk': how many values and letters a reading holds, each counted each time it is reached (what is shared counts as often as it is met; a slice's spare places count too). A statement '..UptoSaid' is the law's where the arguments, and the package variables that the reading takes, are together of bulk at most 1048576: NARROWER than '..Said'. Prove '..Said' where nothing that the law and all that it calls make is longer than what came in: it says more and counts as full. Else prove '..UptoSaid'. A law counts once. -/
mutual
def uptoBulk {H : Type} : DataW H → Nat
  | .lit (.string bytes) => bytes.length + 1
  | .lit _ => 1
  | .nil => 1
  | .ptr d => uptoBulk d + 1
  | .slice elems spare => uptoBulkAll elems + uptoBulkAll spare + 1
  | .agg parts => uptoBulkAll parts + 1
  | .iface _ d => uptoBulk d + 1
  | .map entries => uptoBulkEntries entries + 1
  | .held _ => 1
def uptoBulkAll {H : Type} : List (DataW H) → Nat
  | [] => 0
  | d :: r => uptoBulk d + uptoBulkAll r
def uptoBulkEntries {H : Type} : List (Lit × DataW H) → Nat
  | [] => 0
  | x :: r => uptoBulkEntry x + uptoBulkEntries r
def uptoBulkEntry {H : Type} : Lit × DataW H → Nat
  | (.string bytes, d) => bytes.length + uptoBulk d + 1
  | (_, d) => uptoBulk d + 1
 end
def uptoSmall : (H : Type) → List (DataW H) → Bool := fun _ ds => decide (uptoBulkAll ds ≤ 1048576)
def OpenSpec.upto (s : _root_.Go.ChangeSpec) : _root_.Go.OpenSpec := { _root_.Go.OpenSpec.ofChange s with cond := some uptoSmall }

/-- 'laws.FnExactNeededPages', WHERE WHAT IT READS IS OF BULK AT MOST 1048576: true; the input reads as it did. -/
def fnExactNeededPagesUptoRow : OpenClaim := { program := "ytbdgbllmpmbceaa", sum := "5dfafcd7a3b643eb03b401f6472ada5bfaf02f95e7e44bd74b6695ee866a4d99", func := "loop.example/g00940/laws.FnExactNeededPages", spec := "fnExactNeededPages", apart := false, narrowed := true }
def FnExactNeededPagesUptoSaid : Prop := fnExactNeededPagesUptoRow.holds Try.pinned (OpenSpec.upto fnExactNeededPagesSpec)

/-- 'laws.FnExactPageMix', WHERE WHAT IT READS IS OF BULK AT MOST 1048576: true; the input reads as it did. -/
def fnExactPageMixUptoRow : OpenClaim := { program := "ytbdgbllmpmbceaa", sum := "5dfafcd7a3b643eb03b401f6472ada5bfaf02f95e7e44bd74b6695ee866a4d99", func := "loop.example/g00940/laws.FnExactPageMix", spec := "fnExactPageMix", apart := false, narrowed := true }
def FnExactPageMixUptoSaid : Prop := fnExactPageMixUptoRow.holds Try.pinned (OpenSpec.upto fnExactPageMixSpec)

/-- 'laws.FnExactIsKeyBook', WHERE WHAT IT READS IS OF BULK AT MOST 1048576: true; the input reads as it did. -/
def fnExactIsKeyBookUptoRow : OpenClaim := { program := "ytbdgbllmpmbceaa", sum := "5dfafcd7a3b643eb03b401f6472ada5bfaf02f95e7e44bd74b6695ee866a4d99", func := "loop.example/g00940/laws.FnExactIsKeyBook", spec := "fnExactIsKeyBook", apart := false, narrowed := true }
def FnExactIsKeyBookUptoSaid : Prop := fnExactIsKeyBookUptoRow.holds Try.pinned (OpenSpec.upto fnExactIsKeyBookSpec)

/-- 'laws.FnExactIsEntry', WHERE WHAT IT READS IS OF BULK AT MOST 1048576: true; the input reads as it did. -/
def fnExactIsEntryUptoRow : OpenClaim := { program := "ytbdgbllmpmbceaa", sum := "5dfafcd7a3b643eb03b401f6472ada5bfaf02f95e7e44bd74b6695ee866a4d99", func := "loop.example/g00940/laws.FnExactIsEntry", spec := "fnExactIsEntry", apart := false, narrowed := true }
def FnExactIsEntryUptoSaid : Prop := fnExactIsEntryUptoRow.holds Try.pinned (OpenSpec.upto fnExactIsEntrySpec)

/-- 'laws.FnExactPagesLeft', WHERE WHAT IT READS IS OF BULK AT MOST 1048576: true; the input reads as it did. -/
def fnExactPagesLeftUptoRow : OpenClaim := { program := "ytbdgbllmpmbceaa", sum := "5dfafcd7a3b643eb03b401f6472ada5bfaf02f95e7e44bd74b6695ee866a4d99", func := "loop.example/g00940/laws.FnExactPagesLeft", spec := "fnExactPagesLeft", apart := false, narrowed := true }
def FnExactPagesLeftUptoSaid : Prop := fnExactPagesLeftUptoRow.holds Try.pinned (OpenSpec.upto fnExactPagesLeftSpec)

/-- 'laws.FnExactDoubleUse', WHERE WHAT IT READS IS OF BULK AT MOST 1048576: true; the input reads as it did. -/
def fnExactDoubleUseUptoRow : OpenClaim := { program := "ytbdgbllmpmbceaa", sum := "5dfafcd7a3b643eb03b401f6472ada5bfaf02f95e7e44bd74b6695ee866a4d99", func := "loop.example/g00940/laws.FnExactDoubleUse", spec := "fnExactDoubleUse", apart := false, narrowed := true }
def FnExactDoubleUseUptoSaid : Prop := fnExactDoubleUseUptoRow.holds Try.pinned (OpenSpec.upto fnExactDoubleUseSpec)

/-- 'laws.FnExactKeyPage', WHERE WHAT IT READS IS OF BULK AT MOST 1048576: true; the input reads as it did. -/
def fnExactKeyPageUptoRow : OpenClaim := { program := "ytbdgbllmpmbceaa", sum := "5dfafcd7a3b643eb03b401f6472ada5bfaf02f95e7e44bd74b6695ee866a4d99", func := "loop.example/g00940/laws.FnExactKeyPage", spec := "fnExactKeyPage", apart := false, narrowed := true }
def FnExactKeyPageUptoSaid : Prop := fnExactKeyPageUptoRow.holds Try.pinned (OpenSpec.upto fnExactKeyPageSpec)

/-- 'laws.FnExactIsLog', WHERE WHAT IT READS IS OF BULK AT MOST 1048576: true; the input reads as it did. -/
def fnExactIsLogUptoRow : OpenClaim := { program := "ytbdgbllmpmbceaa", sum := "5dfafcd7a3b643eb03b401f6472ada5bfaf02f95e7e44bd74b6695ee866a4d99", func := "loop.example/g00940/laws.FnExactIsLog", spec := "fnExactIsLog", unfollowed := true, recurses := true, apart := false, narrowed := true }
def FnExactIsLogUptoSaid : Prop := fnExactIsLogUptoRow.holds Try.pinned (OpenSpec.upto fnExactIsLogSpec)

/-- 'laws.FnExactSameNumbers', WHERE WHAT IT READS IS OF BULK AT MOST 1048576: true; the input reads as it did. -/
def fnExactSameNumbersUptoRow : OpenClaim := { program := "ytbdgbllmpmbceaa", sum := "5dfafcd7a3b643eb03b401f6472ada5bfaf02f95e7e44bd74b6695ee866a4d99", func := "loop.example/g00940/laws.FnExactSameNumbers", spec := "fnExactSameNumbers", apart := false, narrowed := true }
def FnExactSameNumbersUptoSaid : Prop := fnExactSameNumbersUptoRow.holds Try.pinned (OpenSpec.upto fnExactSameNumbersSpec)

/-- 'laws.FnExactFindEntry', WHERE WHAT IT READS IS OF BULK AT MOST 1048576: true; the input reads as it did. -/
def fnExactFindEntryUptoRow : OpenClaim := { program := "ytbdgbllmpmbceaa", sum := "5dfafcd7a3b643eb03b401f6472ada5bfaf02f95e7e44bd74b6695ee866a4d99", func := "loop.example/g00940/laws.FnExactFindEntry", spec := "fnExactFindEntry", unfollowed := true, recurses := true, apart := false, narrowed := true }
def FnExactFindEntryUptoSaid : Prop := fnExactFindEntryUptoRow.holds Try.pinned (OpenSpec.upto fnExactFindEntrySpec)

/-- 'laws.FnExactShownSignals', WHERE WHAT IT READS IS OF BULK AT MOST 1048576: true; the input reads as it did. -/
def fnExactShownSignalsUptoRow : OpenClaim := { program := "ytbdgbllmpmbceaa", sum := "5dfafcd7a3b643eb03b401f6472ada5bfaf02f95e7e44bd74b6695ee866a4d99", func := "loop.example/g00940/laws.FnExactShownSignals", spec := "fnExactShownSignals", unfollowed := true, recurses := true, apart := false, narrowed := true }
def FnExactShownSignalsUptoSaid : Prop := fnExactShownSignalsUptoRow.holds Try.pinned (OpenSpec.upto fnExactShownSignalsSpec)

end Rows
end Go.Proofs.Ytbdgbllmpmbceaa

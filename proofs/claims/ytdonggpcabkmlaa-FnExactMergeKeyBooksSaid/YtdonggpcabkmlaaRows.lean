/-
  No cell of these rows narrows 'for every input' (looked for: loops, veiled, ifaces, maps, wideKeys, modest, calm, conditions, laid).
  DERIVED. THE GIVEN ROWS OF THIS SEAT. 9 by the template 'for every input the law returns true; each argument reads behind the call as it read before'; 0 by the template 'total and deterministic' (their statements: YtdonggpcabkmlaaTotals.lean).
  GIVEN WITH THE SEED: the statements are not yours to turn. If you find one false, say at which input.
  Laid BY PROGRAM, IN A SANDBOX (cutbox-rows.mjs): the forced cells as the released guide's own fill.sh prints them over the translation fbd3a098a826fe59… (all of the seat's roots in one cut). By AI agents, Wed Nov 11 2026. No macro, syntax, notation, axiom, sorry.
-/
import Derived.Test.YtdonggpcabkmlaaChecked
import GoSem.Claim
import GoSem.ClaimJoined
import GoSem.ClaimMapViews
import Derived.JoinedTies
import Derived.KernelRfl
namespace Go.Proofs.Ytdonggpcabkmlaa
/- THE CELL 'sum', in the pinned program and in every row, IS THE sha256 OF THE DUMP (.gsa) THAT YtdonggpcabkmlaaProg.lean LOADS. Nothing in Lean hashes anything: it is a label: what it is worth is what the hold of that sum in a sandbox is worth. -/
noncomputable def Try.pinned : Pinned := { name := "ytdonggpcabkmlaa", sum := "fbd3a098a826fe599f9b27d363d1739d48d77e83b737d2828fb9112f384aa0a5", checked := Try.checked }
namespace Rows
def none {H : Type} : Left H := { results := [], args := [] }

/-- 'laws.FnExactUseNextPage': WHATEVER THE INPUT: true; the input reads as it did. -/
def fnExactUseNextPageSpec : ChangeSpec := { name := "fnExactUseNextPage", fn := fun _ => fun
  | [d] => { results := [.lit (.bool true)], args := [d] }
  | _ => none }
def fnExactUseNextPageRow : OpenClaim := { program := "ytdonggpcabkmlaa", sum := "fbd3a098a826fe599f9b27d363d1739d48d77e83b737d2828fb9112f384aa0a5", func := "loop.example/g00940/laws.FnExactUseNextPage", spec := "fnExactUseNextPage", recurses := true, apart := false }
def FnExactUseNextPageSaid : Prop := fnExactUseNextPageRow.holds Try.pinned (OpenSpec.ofChange fnExactUseNextPageSpec)

/-- ITS FALSE NEIGHBOUR: 'it returns false'. Refute it at one input. -/
def fnExactUseNextPageWrong : ChangeSpec := { name := "fnExactUseNextPage", fn := fun _ => fun
  | [d] => { results := [.lit (.bool false)], args := [d] }
  | _ => none }
def FnExactUseNextPageWrongFalsely : Prop := fnExactUseNextPageRow.holds Try.pinned (OpenSpec.ofChange fnExactUseNextPageWrong)

/-- 'laws.FnExactUsePage': WHATEVER THE INPUT: true; the input reads as it did. -/
def fnExactUsePageSpec : ChangeSpec := { name := "fnExactUsePage", fn := fun _ => fun
  | [d1, d2] => { results := [.lit (.bool true)], args := [d1, d2] }
  | _ => none }
def fnExactUsePageRow : OpenClaim := { program := "ytdonggpcabkmlaa", sum := "fbd3a098a826fe599f9b27d363d1739d48d77e83b737d2828fb9112f384aa0a5", func := "loop.example/g00940/laws.FnExactUsePage", spec := "fnExactUsePage", recurses := true, apart := false }
def FnExactUsePageSaid : Prop := fnExactUsePageRow.holds Try.pinned (OpenSpec.ofChange fnExactUsePageSpec)

/-- ITS FALSE NEIGHBOUR: 'it returns false'. Refute it at one input. -/
def fnExactUsePageWrong : ChangeSpec := { name := "fnExactUsePage", fn := fun _ => fun
  | [d1, d2] => { results := [.lit (.bool false)], args := [d1, d2] }
  | _ => none }
def FnExactUsePageWrongFalsely : Prop := fnExactUsePageRow.holds Try.pinned (OpenSpec.ofChange fnExactUsePageWrong)

/-- 'laws.FnExactChangedPlaces': WHATEVER THE INPUT: true; the input reads as it did. -/
def fnExactChangedPlacesSpec : ChangeSpec := { name := "fnExactChangedPlaces", fn := fun _ => fun
  | [d1, d2] => { results := [.lit (.bool true)], args := [d1, d2] }
  | _ => none }
def fnExactChangedPlacesRow : OpenClaim := { program := "ytdonggpcabkmlaa", sum := "fbd3a098a826fe599f9b27d363d1739d48d77e83b737d2828fb9112f384aa0a5", func := "loop.example/g00940/laws.FnExactChangedPlaces", spec := "fnExactChangedPlaces", recurses := true, apart := false }
def FnExactChangedPlacesSaid : Prop := fnExactChangedPlacesRow.holds Try.pinned (OpenSpec.ofChange fnExactChangedPlacesSpec)

/-- ITS FALSE NEIGHBOUR: 'it returns false'. Refute it at one input. -/
def fnExactChangedPlacesWrong : ChangeSpec := { name := "fnExactChangedPlaces", fn := fun _ => fun
  | [d1, d2] => { results := [.lit (.bool false)], args := [d1, d2] }
  | _ => none }
def FnExactChangedPlacesWrongFalsely : Prop := fnExactChangedPlacesRow.holds Try.pinned (OpenSpec.ofChange fnExactChangedPlacesWrong)

/-- 'laws.FnExactMergeKeyBooks': WHATEVER THE INPUT: true; the input reads as it did. -/
def fnExactMergeKeyBooksSpec : ChangeSpec := { name := "fnExactMergeKeyBooks", fn := fun _ => fun
  | [d1, d2] => { results := [.lit (.bool true)], args := [d1, d2] }
  | _ => none }
def fnExactMergeKeyBooksRow : OpenClaim := { program := "ytdonggpcabkmlaa", sum := "fbd3a098a826fe599f9b27d363d1739d48d77e83b737d2828fb9112f384aa0a5", func := "loop.example/g00940/laws.FnExactMergeKeyBooks", spec := "fnExactMergeKeyBooks", recurses := true, apart := false }
def FnExactMergeKeyBooksSaid : Prop := fnExactMergeKeyBooksRow.holds Try.pinned (OpenSpec.ofChange fnExactMergeKeyBooksSpec)

/-- ITS FALSE NEIGHBOUR: 'it returns false'. Refute it at one input. -/
def fnExactMergeKeyBooksWrong : ChangeSpec := { name := "fnExactMergeKeyBooks", fn := fun _ => fun
  | [d1, d2] => { results := [.lit (.bool false)], args := [d1, d2] }
  | _ => none }
def FnExactMergeKeyBooksWrongFalsely : Prop := fnExactMergeKeyBooksRow.holds Try.pinned (OpenSpec.ofChange fnExactMergeKeyBooksWrong)

/-- 'laws.FnExactUseForLength': WHATEVER THE INPUT: true; the input reads as it did. -/
def fnExactUseForLengthSpec : ChangeSpec := { name := "fnExactUseForLength", fn := fun _ => fun
  | [d1, d2] => { results := [.lit (.bool true)], args := [d1, d2] }
  | _ => none }
def fnExactUseForLengthRow : OpenClaim := { program := "ytdonggpcabkmlaa", sum := "fbd3a098a826fe599f9b27d363d1739d48d77e83b737d2828fb9112f384aa0a5", func := "loop.example/g00940/laws.FnExactUseForLength", spec := "fnExactUseForLength", recurses := true, apart := false }
def FnExactUseForLengthSaid : Prop := fnExactUseForLengthRow.holds Try.pinned (OpenSpec.ofChange fnExactUseForLengthSpec)

/-- ITS FALSE NEIGHBOUR: 'it returns false'. Refute it at one input. -/
def fnExactUseForLengthWrong : ChangeSpec := { name := "fnExactUseForLength", fn := fun _ => fun
  | [d1, d2] => { results := [.lit (.bool false)], args := [d1, d2] }
  | _ => none }
def FnExactUseForLengthWrongFalsely : Prop := fnExactUseForLengthRow.holds Try.pinned (OpenSpec.ofChange fnExactUseForLengthWrong)

/-- 'laws.FnExactMessagesLogged': WHATEVER THE INPUT: true; the input reads as it did. -/
def fnExactMessagesLoggedSpec : ChangeSpec := { name := "fnExactMessagesLogged", fn := fun _ => fun
  | [d] => { results := [.lit (.bool true)], args := [d] }
  | _ => none }
def fnExactMessagesLoggedRow : OpenClaim := { program := "ytdonggpcabkmlaa", sum := "fbd3a098a826fe599f9b27d363d1739d48d77e83b737d2828fb9112f384aa0a5", func := "loop.example/g00940/laws.FnExactMessagesLogged", spec := "fnExactMessagesLogged", unfollowed := true, recurses := true, apart := false }
def FnExactMessagesLoggedSaid : Prop := fnExactMessagesLoggedRow.holds Try.pinned (OpenSpec.ofChange fnExactMessagesLoggedSpec)

/-- ITS FALSE NEIGHBOUR: 'it returns false'. Refute it at one input. -/
def fnExactMessagesLoggedWrong : ChangeSpec := { name := "fnExactMessagesLogged", fn := fun _ => fun
  | [d] => { results := [.lit (.bool false)], args := [d] }
  | _ => none }
def FnExactMessagesLoggedWrongFalsely : Prop := fnExactMessagesLoggedRow.holds Try.pinned (OpenSpec.ofChange fnExactMessagesLoggedWrong)

/-- 'laws.FnExactOpenSecret': WHATEVER THE INPUT: true; the input reads as it did. -/
def fnExactOpenSecretSpec : ChangeSpec := { name := "fnExactOpenSecret", fn := fun _ => fun
  | [d1, d2] => { results := [.lit (.bool true)], args := [d1, d2] }
  | _ => none }
def fnExactOpenSecretRow : OpenClaim := { program := "ytdonggpcabkmlaa", sum := "fbd3a098a826fe599f9b27d363d1739d48d77e83b737d2828fb9112f384aa0a5", func := "loop.example/g00940/laws.FnExactOpenSecret", spec := "fnExactOpenSecret", recurses := true, apart := false }
def FnExactOpenSecretSaid : Prop := fnExactOpenSecretRow.holds Try.pinned (OpenSpec.ofChange fnExactOpenSecretSpec)

/-- ITS FALSE NEIGHBOUR: 'it returns false'. Refute it at one input. -/
def fnExactOpenSecretWrong : ChangeSpec := { name := "fnExactOpenSecret", fn := fun _ => fun
  | [d1, d2] => { results := [.lit (.bool false)], args := [d1, d2] }
  | _ => none }
def FnExactOpenSecretWrongFalsely : Prop := fnExactOpenSecretRow.holds Try.pinned (OpenSpec.ofChange fnExactOpenSecretWrong)

/-- 'laws.FnExactHideMessage': WHATEVER THE INPUT: true; the input reads as it did. -/
def fnExactHideMessageSpec : ChangeSpec := { name := "fnExactHideMessage", fn := fun _ => fun
  | [d1, d2] => { results := [.lit (.bool true)], args := [d1, d2] }
  | _ => none }
def fnExactHideMessageRow : OpenClaim := { program := "ytdonggpcabkmlaa", sum := "fbd3a098a826fe599f9b27d363d1739d48d77e83b737d2828fb9112f384aa0a5", func := "loop.example/g00940/laws.FnExactHideMessage", spec := "fnExactHideMessage", recurses := true, apart := false }
def FnExactHideMessageSaid : Prop := fnExactHideMessageRow.holds Try.pinned (OpenSpec.ofChange fnExactHideMessageSpec)

/-- ITS FALSE NEIGHBOUR: 'it returns false'. Refute it at one input. -/
def fnExactHideMessageWrong : ChangeSpec := { name := "fnExactHideMessage", fn := fun _ => fun
  | [d1, d2] => { results := [.lit (.bool false)], args := [d1, d2] }
  | _ => none }
def FnExactHideMessageWrongFalsely : Prop := fnExactHideMessageRow.holds Try.pinned (OpenSpec.ofChange fnExactHideMessageWrong)

/-- 'laws.FnExactReceiveSecret': WHATEVER THE INPUT: true; the input reads as it did. -/
def fnExactReceiveSecretSpec : ChangeSpec := { name := "fnExactReceiveSecret", fn := fun _ => fun
  | [d1, d2] => { results := [.lit (.bool true)], args := [d1, d2] }
  | _ => none }
def fnExactReceiveSecretRow : OpenClaim := { program := "ytdonggpcabkmlaa", sum := "fbd3a098a826fe599f9b27d363d1739d48d77e83b737d2828fb9112f384aa0a5", func := "loop.example/g00940/laws.FnExactReceiveSecret", spec := "fnExactReceiveSecret", recurses := true, apart := false }
def FnExactReceiveSecretSaid : Prop := fnExactReceiveSecretRow.holds Try.pinned (OpenSpec.ofChange fnExactReceiveSecretSpec)

/-- ITS FALSE NEIGHBOUR: 'it returns false'. Refute it at one input. -/
def fnExactReceiveSecretWrong : ChangeSpec := { name := "fnExactReceiveSecret", fn := fun _ => fun
  | [d1, d2] => { results := [.lit (.bool false)], args := [d1, d2] }
  | _ => none }
def FnExactReceiveSecretWrongFalsely : Prop := fnExactReceiveSecretRow.holds Try.pinned (OpenSpec.ofChange fnExactReceiveSecretWrong)

/- THE SECOND FORM. 'bulk': how many values and letters a reading holds, each counted each time it is reached (what is shared counts as often as it is met; a slice's spare places count too). A statement '..UptoSaid' is the law's where the arguments, and the package variables that the reading takes, are together of bulk at most 1048576: NARROWER than '..Said'. Prove '..Said' where nothing that the law and all that it calls make is longer than what came in: it says more and counts as full. Else prove '..UptoSaid'. A law counts once. -/
mutual
def uptoBulk {H : Type} : DataW H → Nat
  | .lit (.string bytes) => bytes.length + 1
  | .lit _ => 1
  | .nil => 1
  | .ptr d => uptoBulk d + 1
  | .slice elems spare => uptoBulkAll elems + uptoBulkAll spare + 1
  | .agg parts => uptoBulkAll parts + 1
  | .iface _ d => uptoBulk d + 1
  | .map entries => uptoBulkEntries entries + 1
  | .held _ => 1
def uptoBulkAll {H : Type} : List (DataW H) → Nat
  | [] => 0
  | d :: r => uptoBulk d + uptoBulkAll r
def uptoBulkEntries {H : Type} : List (Lit × DataW H) → Nat
  | [] => 0
  | x :: r => uptoBulkEntry x + uptoBulkEntries r
def uptoBulkEntry {H : Type} : Lit × DataW H → Nat
  | (.string bytes, d) => bytes.length + uptoBulk d + 1
  | (_, d) => uptoBulk d + 1
 end
def uptoSmall : (H : Type) → List (DataW H) → Bool := fun _ ds => decide (uptoBulkAll ds ≤ 1048576)
def OpenSpec.upto (s : _root_.Go.ChangeSpec) : _root_.Go.OpenSpec := { _root_.Go.OpenSpec.ofChange s with cond := some uptoSmall }

/-- 'laws.FnExactUseNextPage', WHERE WHAT IT READS IS OF BULK AT MOST 1048576: true; the input reads as it did. -/
def fnExactUseNextPageUptoRow : OpenClaim := { program := "ytdonggpcabkmlaa", sum := "fbd3a098a826fe599f9b27d363d1739d48d77e83b737d2828fb9112f384aa0a5", func := "loop.example/g00940/laws.FnExactUseNextPage", spec := "fnExactUseNextPage", recurses := true, apart := false, narrowed := true }
def FnExactUseNextPageUptoSaid : Prop := fnExactUseNextPageUptoRow.holds Try.pinned (OpenSpec.upto fnExactUseNextPageSpec)

/-- 'laws.FnExactUsePage', WHERE WHAT IT READS IS OF BULK AT MOST 1048576: true; the input reads as it did. -/
def fnExactUsePageUptoRow : OpenClaim := { program := "ytdonggpcabkmlaa", sum := "fbd3a098a826fe599f9b27d363d1739d48d77e83b737d2828fb9112f384aa0a5", func := "loop.example/g00940/laws.FnExactUsePage", spec := "fnExactUsePage", recurses := true, apart := false, narrowed := true }
def FnExactUsePageUptoSaid : Prop := fnExactUsePageUptoRow.holds Try.pinned (OpenSpec.upto fnExactUsePageSpec)

/-- 'laws.FnExactChangedPlaces', WHERE WHAT IT READS IS OF BULK AT MOST 1048576: true; the input reads as it did. -/
def fnExactChangedPlacesUptoRow : OpenClaim := { program := "ytdonggpcabkmlaa", sum := "fbd3a098a826fe599f9b27d363d1739d48d77e83b737d2828fb9112f384aa0a5", func := "loop.example/g00940/laws.FnExactChangedPlaces", spec := "fnExactChangedPlaces", recurses := true, apart := false, narrowed := true }
def FnExactChangedPlacesUptoSaid : Prop := fnExactChangedPlacesUptoRow.holds Try.pinned (OpenSpec.upto fnExactChangedPlacesSpec)

/-- 'laws.FnExactMergeKeyBooks', WHERE WHAT IT READS IS OF BULK AT MOST 1048576: true; the input reads as it did. -/
def fnExactMergeKeyBooksUptoRow : OpenClaim := { program := "ytdonggpcabkmlaa", sum := "fbd3a098a826fe599f9b27d363d1739d48d77e83b737d2828fb9112f384aa0a5", func := "loop.example/g00940/laws.FnExactMergeKeyBooks", spec := "fnExactMergeKeyBooks", recurses := true, apart := false, narrowed := true }
def FnExactMergeKeyBooksUptoSaid : Prop := fnExactMergeKeyBooksUptoRow.holds Try.pinned (OpenSpec.upto fnExactMergeKeyBooksSpec)

/-- 'laws.FnExactUseForLength', WHERE WHAT IT READS IS OF BULK AT MOST 1048576: true; the input reads as it did. -/
def fnExactUseForLengthUptoRow : OpenClaim := { program := "ytdonggpcabkmlaa", sum := "fbd3a098a826fe599f9b27d363d1739d48d77e83b737d2828fb9112f384aa0a5", func := "loop.example/g00940/laws.FnExactUseForLength", spec := "fnExactUseForLength", recurses := true, apart := false, narrowed := true }
def FnExactUseForLengthUptoSaid : Prop := fnExactUseForLengthUptoRow.holds Try.pinned (OpenSpec.upto fnExactUseForLengthSpec)

/-- 'laws.FnExactMessagesLogged', WHERE WHAT IT READS IS OF BULK AT MOST 1048576: true; the input reads as it did. -/
def fnExactMessagesLoggedUptoRow : OpenClaim := { program := "ytdonggpcabkmlaa", sum := "fbd3a098a826fe599f9b27d363d1739d48d77e83b737d2828fb9112f384aa0a5", func := "loop.example/g00940/laws.FnExactMessagesLogged", spec := "fnExactMessagesLogged", unfollowed := true, recurses := true, apart := false, narrowed := true }
def FnExactMessagesLoggedUptoSaid : Prop := fnExactMessagesLoggedUptoRow.holds Try.pinned (OpenSpec.upto fnExactMessagesLoggedSpec)

/-- 'laws.FnExactOpenSecret', WHERE WHAT IT READS IS OF BULK AT MOST 1048576: true; the input reads as it did. -/
def fnExactOpenSecretUptoRow : OpenClaim := { program := "ytdonggpcabkmlaa", sum := "fbd3a098a826fe599f9b27d363d1739d48d77e83b737d2828fb9112f384aa0a5", func := "loop.example/g00940/laws.FnExactOpenSecret", spec := "fnExactOpenSecret", recurses := true, apart := false, narrowed := true }
def FnExactOpenSecretUptoSaid : Prop := fnExactOpenSecretUptoRow.holds Try.pinned (OpenSpec.upto fnExactOpenSecretSpec)

/-- 'laws.FnExactHideMessage', WHERE WHAT IT READS IS OF BULK AT MOST 1048576: true; the input reads as it did. -/
def fnExactHideMessageUptoRow : OpenClaim := { program := "ytdonggpcabkmlaa", sum := "fbd3a098a826fe599f9b27d363d1739d48d77e83b737d2828fb9112f384aa0a5", func := "loop.example/g00940/laws.FnExactHideMessage", spec := "fnExactHideMessage", recurses := true, apart := false, narrowed := true }
def FnExactHideMessageUptoSaid : Prop := fnExactHideMessageUptoRow.holds Try.pinned (OpenSpec.upto fnExactHideMessageSpec)

/-- 'laws.FnExactReceiveSecret', WHERE WHAT IT READS IS OF BULK AT MOST 1048576: true; the input reads as it did. -/
def fnExactReceiveSecretUptoRow : OpenClaim := { program := "ytdonggpcabkmlaa", sum := "fbd3a098a826fe599f9b27d363d1739d48d77e83b737d2828fb9112f384aa0a5", func := "loop.example/g00940/laws.FnExactReceiveSecret", spec := "fnExactReceiveSecret", recurses := true, apart := false, narrowed := true }
def FnExactReceiveSecretUptoSaid : Prop := fnExactReceiveSecretUptoRow.holds Try.pinned (OpenSpec.upto fnExactReceiveSecretSpec)

end Rows
end Go.Proofs.Ytdonggpcabkmlaa

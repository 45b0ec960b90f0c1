/-
  DERIVED. GIVEN WITH THE SEED: THE CARDS: each row of YtjhbffndiaggmaaGreatDoorRows.lean that lists a variable, with what it lists TIED to the program's text (the seventh form; the later family's looks); each row that meets fmt, with fmt's text TOLD by the authors' own Lean function (tested against real Go, not proved from fmt's source: count such statements apart). THE CARD IS WHAT COUNTS. Prove the row's statement (the work); the ties are given (YtjhbffndiaggmaaGreatDoorTie.lean); close each card by the builder's one call (the guide's Derived/Test/ToyasCard.lean, 'card_holds'). Laid BY PROGRAM, IN A SANDBOX (cutbox-door.mjs). By AI agents, Wed Nov 11 2026. No macro, syntax, notation, axiom, sorry.
-/
import Derived.Test.YtjhbffndiaggmaaGreatDoorRows
import GoSem.ClaimSeven
namespace Go.Proofs.YtjhbffndiaggmaaGreatDoor
namespace Rows

/-- THE TIED CARD OF 'laws.FnKeyBooks'. -/
def fnKeyBooksCard : Claim7 := { stood := { row := fnKeyBooksRow, standIns := [], harness := (true, "6db24402efdccf1d636bfa708d622a81deedba2b7a1f649d970912b5b0d1510f"), looks := true }, kinds := [], alts := [], laidByText := true, laidKinds := [.data, .data, .data, .data, .sentinel, .sentinel, .pinned], laidTests := true, laidLooks := .later }
def FnKeyBooksCardSaid : Prop := Claim7.holds Tryz.pinned (.plain (OpenSpec.ofChange fnKeyBooksSpec)) fnKeyBooksCard

/-- THE TIED CARD OF 'laws.FnSecretSignals'. -/
def fnSecretSignalsCard : Claim7 := { stood := { row := fnSecretSignalsRow, standIns := [], harness := (true, "6db24402efdccf1d636bfa708d622a81deedba2b7a1f649d970912b5b0d1510f"), looks := true }, kinds := [], alts := [], laidByText := true, laidKinds := [.data, .data, .data, .data, .sentinel, .sentinel, .pinned], laidTests := true, laidLooks := .later }
def FnSecretSignalsCardSaid : Prop := Claim7.holds Tryz.pinned (.plain (OpenSpec.ofChange fnSecretSignalsSpec)) fnSecretSignalsCard

/-- THE TIED CARD OF 'laws.FnLogs'. -/
def fnLogsCard : Claim7 := { stood := { row := fnLogsRow, standIns := [], harness := (true, "6db24402efdccf1d636bfa708d622a81deedba2b7a1f649d970912b5b0d1510f"), looks := true }, kinds := [], alts := [], laidByText := true, laidKinds := [.data, .data, .data, .data, .sentinel, .sentinel, .pinned], laidTests := true, laidLooks := .later }
def FnLogsCardSaid : Prop := Claim7.holds Tryz.pinned (.plain (OpenSpec.ofChange fnLogsSpec)) fnLogsCard

/-- THE SECOND FORM's CARD OF 'laws.FnKeyBooks'. -/
def fnKeyBooksUptoCard : Claim7 := { stood := { row := fnKeyBooksUptoRow, standIns := [], harness := (true, "6db24402efdccf1d636bfa708d622a81deedba2b7a1f649d970912b5b0d1510f"), looks := true }, kinds := [], alts := [], laidByText := true, laidKinds := [.data, .data, .data, .data, .sentinel, .sentinel, .pinned], laidTests := true, laidLooks := .later }
def FnKeyBooksUptoCardSaid : Prop := Claim7.holds Tryz.pinned (.plain (OpenSpec.upto fnKeyBooksSpec)) fnKeyBooksUptoCard

/-- THE SECOND FORM's CARD OF 'laws.FnSecretSignals'. -/
def fnSecretSignalsUptoCard : Claim7 := { stood := { row := fnSecretSignalsUptoRow, standIns := [], harness := (true, "6db24402efdccf1d636bfa708d622a81deedba2b7a1f649d970912b5b0d1510f"), looks := true }, kinds := [], alts := [], laidByText := true, laidKinds := [.data, .data, .data, .data, .sentinel, .sentinel, .pinned], laidTests := true, laidLooks := .later }
def FnSecretSignalsUptoCardSaid : Prop := Claim7.holds Tryz.pinned (.plain (OpenSpec.upto fnSecretSignalsSpec)) fnSecretSignalsUptoCard

/-- THE SECOND FORM's CARD OF 'laws.FnLogs'. -/
def fnLogsUptoCard : Claim7 := { stood := { row := fnLogsUptoRow, standIns := [], harness := (true, "6db24402efdccf1d636bfa708d622a81deedba2b7a1f649d970912b5b0d1510f"), looks := true }, kinds := [], alts := [], laidByText := true, laidKinds := [.data, .data, .data, .data, .sentinel, .sentinel, .pinned], laidTests := true, laidLooks := .later }
def FnLogsUptoCardSaid : Prop := Claim7.holds Tryz.pinned (.plain (OpenSpec.upto fnLogsSpec)) fnLogsUptoCard
end Rows
end Go.Proofs.YtjhbffndiaggmaaGreatDoor

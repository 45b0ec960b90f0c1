/-
  DERIVED. GIVEN WITH THE SEED: THE CARDS: each row of YtaoobcjannbnjaaDoorRows.lean that lists a variable, with what it lists TIED to the program's text (the seventh form; the later family's looks); each row that meets fmt, with fmt's text TOLD by the authors' own Lean function (tested against real Go, not proved from fmt's source: count such statements apart). THE CARD IS WHAT COUNTS. Prove the row's statement (the work); the ties are given (YtaoobcjannbnjaaDoorTie.lean); close each card by the builder's one call (the guide's Derived/Test/ToyasCard.lean, 'card_holds'). Laid BY PROGRAM, IN A SANDBOX (cutbox-door.mjs). By AI agents, Wed Nov 11 2026. No macro, syntax, notation, axiom, sorry.
-/
import Derived.Test.YtaoobcjannbnjaaDoorRows
import GoSem.ClaimSeven
namespace Go.Proofs.YtaoobcjannbnjaaDoor
namespace Rows

/-- THE TIED CARD OF 'laws.FnExactFaultText'. -/
def fnExactFaultTextCard : Claim7 := { stood := { row := fnExactFaultTextRow, standIns := [], harness := (true, "7dd0f754b3ea702d7d4d8e3e5b0db2163953dcd74d890452c9fd5da08c3a6841"), looks := true }, kinds := [], alts := [], laidByText := true, laidKinds := [.data, .data, .data], laidTests := true, laidLooks := .later }
def FnExactFaultTextCardSaid : Prop := Claim7.holds Tryd.pinned (.plain (OpenSpec.ofChange fnExactFaultTextSpec)) fnExactFaultTextCard

/-- THE TIED CARD OF 'laws.FnExactKeyBookText'. -/
def fnExactKeyBookTextCard : Claim7 := { stood := { row := fnExactKeyBookTextRow, standIns := [], harness := (true, "7dd0f754b3ea702d7d4d8e3e5b0db2163953dcd74d890452c9fd5da08c3a6841"), looks := true }, kinds := [], alts := [], laidByText := true, laidKinds := [.data, .data, .data], laidTests := true, laidLooks := .later }
def FnExactKeyBookTextCardSaid : Prop := Claim7.holds Tryd.pinned (.plain (OpenSpec.ofChange fnExactKeyBookTextSpec)) fnExactKeyBookTextCard

/-- THE TIED CARD OF 'laws.FnExactLogText'. -/
def fnExactLogTextCard : Claim7 := { stood := { row := fnExactLogTextRow, standIns := [], harness := (true, "7dd0f754b3ea702d7d4d8e3e5b0db2163953dcd74d890452c9fd5da08c3a6841"), looks := true }, kinds := [], alts := [], laidByText := true, laidKinds := [.data, .data, .data], laidTests := true, laidLooks := .later }
def FnExactLogTextCardSaid : Prop := Claim7.holds Tryd.pinned (.plain (OpenSpec.ofChange fnExactLogTextSpec)) fnExactLogTextCard

/-- THE TIED CARD OF 'laws.FnExactSecretText'. -/
def fnExactSecretTextCard : Claim7 := { stood := { row := fnExactSecretTextRow, standIns := [], harness := (true, "7dd0f754b3ea702d7d4d8e3e5b0db2163953dcd74d890452c9fd5da08c3a6841"), looks := true }, kinds := [], alts := [], laidByText := true, laidKinds := [.data, .data, .data], laidTests := true, laidLooks := .later }
def FnExactSecretTextCardSaid : Prop := Claim7.holds Tryd.pinned (.plain (OpenSpec.ofChange fnExactSecretTextSpec)) fnExactSecretTextCard

/-- THE TIED CARD OF 'laws.FnExactParseKeyBook'. -/
def fnExactParseKeyBookCard : Claim7 := { stood := { row := fnExactParseKeyBookRow, standIns := [], harness := (true, "7dd0f754b3ea702d7d4d8e3e5b0db2163953dcd74d890452c9fd5da08c3a6841"), looks := true }, kinds := [], alts := [], laidByText := true, laidKinds := [.data, .data, .data, .data, .sentinel, .sentinel, .pinned], laidTests := true, laidLooks := .later }
def FnExactParseKeyBookCardSaid : Prop := Claim7.holds Tryd.pinned (.plain (OpenSpec.ofChange fnExactParseKeyBookSpec)) fnExactParseKeyBookCard

/-- THE TIED CARD OF 'laws.FnExactParseLog'. -/
def fnExactParseLogCard : Claim7 := { stood := { row := fnExactParseLogRow, standIns := [], harness := (true, "7dd0f754b3ea702d7d4d8e3e5b0db2163953dcd74d890452c9fd5da08c3a6841"), looks := true }, kinds := [], alts := [], laidByText := true, laidKinds := [.data, .data, .data, .data, .sentinel, .sentinel, .pinned], laidTests := true, laidLooks := .later }
def FnExactParseLogCardSaid : Prop := Claim7.holds Tryd.pinned (.plain (OpenSpec.ofChange fnExactParseLogSpec)) fnExactParseLogCard

/-- THE TIED CARD OF 'laws.FnExactParseSecret'. -/
def fnExactParseSecretCard : Claim7 := { stood := { row := fnExactParseSecretRow, standIns := [], harness := (true, "7dd0f754b3ea702d7d4d8e3e5b0db2163953dcd74d890452c9fd5da08c3a6841"), looks := true }, kinds := [], alts := [], laidByText := true, laidKinds := [.data, .data, .data, .data, .sentinel, .sentinel, .pinned], laidTests := true, laidLooks := .later }
def FnExactParseSecretCardSaid : Prop := Claim7.holds Tryd.pinned (.plain (OpenSpec.ofChange fnExactParseSecretSpec)) fnExactParseSecretCard

/-- THE SECOND FORM's CARD OF 'laws.FnExactFaultText'. -/
def fnExactFaultTextUptoCard : Claim7 := { stood := { row := fnExactFaultTextUptoRow, standIns := [], harness := (true, "7dd0f754b3ea702d7d4d8e3e5b0db2163953dcd74d890452c9fd5da08c3a6841"), looks := true }, kinds := [], alts := [], laidByText := true, laidKinds := [.data, .data, .data], laidTests := true, laidLooks := .later }
def FnExactFaultTextUptoCardSaid : Prop := Claim7.holds Tryd.pinned (.plain (OpenSpec.upto fnExactFaultTextSpec)) fnExactFaultTextUptoCard

/-- THE SECOND FORM's CARD OF 'laws.FnExactKeyBookText'. -/
def fnExactKeyBookTextUptoCard : Claim7 := { stood := { row := fnExactKeyBookTextUptoRow, standIns := [], harness := (true, "7dd0f754b3ea702d7d4d8e3e5b0db2163953dcd74d890452c9fd5da08c3a6841"), looks := true }, kinds := [], alts := [], laidByText := true, laidKinds := [.data, .data, .data], laidTests := true, laidLooks := .later }
def FnExactKeyBookTextUptoCardSaid : Prop := Claim7.holds Tryd.pinned (.plain (OpenSpec.upto fnExactKeyBookTextSpec)) fnExactKeyBookTextUptoCard

/-- THE SECOND FORM's CARD OF 'laws.FnExactLogText'. -/
def fnExactLogTextUptoCard : Claim7 := { stood := { row := fnExactLogTextUptoRow, standIns := [], harness := (true, "7dd0f754b3ea702d7d4d8e3e5b0db2163953dcd74d890452c9fd5da08c3a6841"), looks := true }, kinds := [], alts := [], laidByText := true, laidKinds := [.data, .data, .data], laidTests := true, laidLooks := .later }
def FnExactLogTextUptoCardSaid : Prop := Claim7.holds Tryd.pinned (.plain (OpenSpec.upto fnExactLogTextSpec)) fnExactLogTextUptoCard

/-- THE SECOND FORM's CARD OF 'laws.FnExactSecretText'. -/
def fnExactSecretTextUptoCard : Claim7 := { stood := { row := fnExactSecretTextUptoRow, standIns := [], harness := (true, "7dd0f754b3ea702d7d4d8e3e5b0db2163953dcd74d890452c9fd5da08c3a6841"), looks := true }, kinds := [], alts := [], laidByText := true, laidKinds := [.data, .data, .data], laidTests := true, laidLooks := .later }
def FnExactSecretTextUptoCardSaid : Prop := Claim7.holds Tryd.pinned (.plain (OpenSpec.upto fnExactSecretTextSpec)) fnExactSecretTextUptoCard

/-- THE SECOND FORM's CARD OF 'laws.FnExactParseKeyBook'. -/
def fnExactParseKeyBookUptoCard : Claim7 := { stood := { row := fnExactParseKeyBookUptoRow, standIns := [], harness := (true, "7dd0f754b3ea702d7d4d8e3e5b0db2163953dcd74d890452c9fd5da08c3a6841"), looks := true }, kinds := [], alts := [], laidByText := true, laidKinds := [.data, .data, .data, .data, .sentinel, .sentinel, .pinned], laidTests := true, laidLooks := .later }
def FnExactParseKeyBookUptoCardSaid : Prop := Claim7.holds Tryd.pinned (.plain (OpenSpec.upto fnExactParseKeyBookSpec)) fnExactParseKeyBookUptoCard

/-- THE SECOND FORM's CARD OF 'laws.FnExactParseLog'. -/
def fnExactParseLogUptoCard : Claim7 := { stood := { row := fnExactParseLogUptoRow, standIns := [], harness := (true, "7dd0f754b3ea702d7d4d8e3e5b0db2163953dcd74d890452c9fd5da08c3a6841"), looks := true }, kinds := [], alts := [], laidByText := true, laidKinds := [.data, .data, .data, .data, .sentinel, .sentinel, .pinned], laidTests := true, laidLooks := .later }
def FnExactParseLogUptoCardSaid : Prop := Claim7.holds Tryd.pinned (.plain (OpenSpec.upto fnExactParseLogSpec)) fnExactParseLogUptoCard

/-- THE SECOND FORM's CARD OF 'laws.FnExactParseSecret'. -/
def fnExactParseSecretUptoCard : Claim7 := { stood := { row := fnExactParseSecretUptoRow, standIns := [], harness := (true, "7dd0f754b3ea702d7d4d8e3e5b0db2163953dcd74d890452c9fd5da08c3a6841"), looks := true }, kinds := [], alts := [], laidByText := true, laidKinds := [.data, .data, .data, .data, .sentinel, .sentinel, .pinned], laidTests := true, laidLooks := .later }
def FnExactParseSecretUptoCardSaid : Prop := Claim7.holds Tryd.pinned (.plain (OpenSpec.upto fnExactParseSecretSpec)) fnExactParseSecretUptoCard
end Rows
end Go.Proofs.YtaoobcjannbnjaaDoor

/-
  DERIVED. GIVEN WITH THE SEED: THE CARDS: each row of YtjhbffndiaggmaaDoorRows.lean that lists a variable, with what it lists TIED to the program's text (the seventh form; the later family's looks); each row that meets fmt, with fmt's text TOLD by the authors' own Lean function (tested against real Go, not proved from fmt's source: count such statements apart). THE CARD IS WHAT COUNTS. Prove the row's statement (the work); the ties are given (YtjhbffndiaggmaaDoorTie.lean); close each card by the builder's one call (the guide's Derived/Test/ToyasCard.lean, 'card_holds'). Laid BY PROGRAM, IN A SANDBOX (cutbox-door.mjs). By AI agents, Wed Nov 11 2026. No macro, syntax, notation, axiom, sorry.
-/
import Derived.Test.YtjhbffndiaggmaaDoorRows
import GoSem.ClaimSeven
namespace Go.Proofs.YtjhbffndiaggmaaDoor
namespace Rows

/-- THE TIED CARD OF 'laws.FnAudits'. -/
def fnAuditsCard : Claim7 := { stood := { row := fnAuditsRow, standIns := [], harness := (true, "688d53a416e8a61e5b3fb2a257b14b360a2bbdf028cbcf85ce61232fa07da2d7"), looks := false }, kinds := [], alts := [], laidByText := true, laidKinds := [.data, .data, .data], laidTests := true, laidLooks := .later }
def FnAuditsCardSaid : Prop := Claim7.holds Tryd.pinned (.plain (OpenSpec.ofChange fnAuditsSpec)) fnAuditsCard

/-- THE SECOND FORM's CARD OF 'laws.FnAudits'. -/
def fnAuditsUptoCard : Claim7 := { stood := { row := fnAuditsUptoRow, standIns := [], harness := (true, "688d53a416e8a61e5b3fb2a257b14b360a2bbdf028cbcf85ce61232fa07da2d7"), looks := false }, kinds := [], alts := [], laidByText := true, laidKinds := [.data, .data, .data], laidTests := true, laidLooks := .later }
def FnAuditsUptoCardSaid : Prop := Claim7.holds Tryd.pinned (.plain (OpenSpec.upto fnAuditsSpec)) fnAuditsUptoCard
end Rows
end Go.Proofs.YtjhbffndiaggmaaDoor

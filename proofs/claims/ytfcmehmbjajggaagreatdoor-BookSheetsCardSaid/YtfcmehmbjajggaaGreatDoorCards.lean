/-
  DERIVED. GIVEN WITH THE SEED: THE CARDS: each row of YtfcmehmbjajggaaGreatDoorRows.lean that lists a variable, with what it lists TIED to the program's text (the seventh form; the later family's looks); each row that meets fmt, with fmt's text TOLD by the authors' own Lean function (tested against real Go, not proved from fmt's source: count such statements apart). THE CARD IS WHAT COUNTS. Prove the row's statement (the work); the ties are given (YtfcmehmbjajggaaGreatDoorTie.lean); close each card by the builder's one call (the guide's Derived/Test/ToyasCard.lean, 'card_holds'). Laid BY PROGRAM, IN A SANDBOX (cutbox-door.mjs). By AI agents, Wed Nov 11 2026. No macro, syntax, notation, axiom, sorry.
-/
import Derived.Test.YtfcmehmbjajggaaGreatDoorRows
import GoSem.ClaimSeven
namespace Go.Proofs.YtfcmehmbjajggaaGreatDoor
namespace Rows

/-- THE TIED CARD OF 'counterpanelaw14.BookSheets'. -/
def bookSheetsCard : Claim7 := { stood := { row := bookSheetsRow, standIns := [], harness := (true, "57b3992ff317f9689244ed141f0b4e2b0394dc61a797734203a3e572597fd98d"), looks := true }, kinds := [], alts := [], laidByText := true, laidKinds := [.data, .data, .data, .data, .sentinel, .sentinel, .pinned], laidTests := true, laidLooks := .later }
def BookSheetsCardSaid : Prop := Claim7.holds Tryz.pinned (.plain (OpenSpec.ofChange bookSheetsSpec)) bookSheetsCard

/-- THE SECOND FORM's CARD OF 'counterpanelaw14.BookSheets'. -/
def bookSheetsUptoCard : Claim7 := { stood := { row := bookSheetsUptoRow, standIns := [], harness := (true, "57b3992ff317f9689244ed141f0b4e2b0394dc61a797734203a3e572597fd98d"), looks := true }, kinds := [], alts := [], laidByText := true, laidKinds := [.data, .data, .data, .data, .sentinel, .sentinel, .pinned], laidTests := true, laidLooks := .later }
def BookSheetsUptoCardSaid : Prop := Claim7.holds Tryz.pinned (.plain (OpenSpec.upto bookSheetsSpec)) bookSheetsUptoCard
end Rows
end Go.Proofs.YtfcmehmbjajggaaGreatDoor

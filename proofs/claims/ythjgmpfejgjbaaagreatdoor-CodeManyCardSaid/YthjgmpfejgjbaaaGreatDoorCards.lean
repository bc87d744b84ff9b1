/-
  DERIVED. GIVEN WITH THE SEED: THE CARDS: each row of YthjgmpfejgjbaaaGreatDoorRows.lean that lists a variable, with what it lists TIED to the program's text (the seventh form; the later family's looks); each row that meets fmt, with fmt's text TOLD by the authors' own Lean function (tested against real Go, not proved from fmt's source: count such statements apart). THE CARD IS WHAT COUNTS. Prove the row's statement (the work); the ties are given (YthjgmpfejgjbaaaGreatDoorTie.lean); close each card by the builder's one call (the guide's Derived/Test/ToyasCard.lean, 'card_holds'). Laid BY PROGRAM, IN A SANDBOX (cutbox-door.mjs). By AI agents, Wed Nov 11 2026. No macro, syntax, notation, axiom, sorry.
-/
import Derived.Test.YthjgmpfejgjbaaaGreatDoorRows
import GoSem.ClaimSeven
namespace Go.Proofs.YthjgmpfejgjbaaaGreatDoor
namespace Rows

/-- THE TIED CARD OF 'counterpanelaw11.CodeMany'. -/
def codeManyCard : Claim7 := { stood := { row := codeManyRow, standIns := [], harness := (true, "d4ac7bd8517e499f30e48c140ad545fa3638aa001fa1e2b0e0baffe9e14c5c82"), looks := true }, kinds := [], alts := [], laidByText := true, laidKinds := [.data, .data, .data, .data, .sentinel, .sentinel, .pinned], laidTests := true, laidLooks := .later }
def CodeManyCardSaid : Prop := Claim7.holds Tryz.pinned (.plain (OpenSpec.ofChange codeManySpec)) codeManyCard

/-- THE TIED CARD OF 'counterpanelaw21.WalNone'. -/
def walNoneCard : Claim7 := { stood := { row := walNoneRow, standIns := [], harness := (true, "d4ac7bd8517e499f30e48c140ad545fa3638aa001fa1e2b0e0baffe9e14c5c82"), looks := true }, kinds := [], alts := [], laidByText := true, laidKinds := [.data, .data, .data, .data, .sentinel, .sentinel, .pinned], laidTests := true, laidLooks := .later }
def WalNoneCardSaid : Prop := Claim7.holds Tryz.pinned (.plain (OpenSpec.ofChange walNoneSpec)) walNoneCard

/-- THE SECOND FORM's CARD OF 'counterpanelaw11.CodeMany'. -/
def codeManyUptoCard : Claim7 := { stood := { row := codeManyUptoRow, standIns := [], harness := (true, "d4ac7bd8517e499f30e48c140ad545fa3638aa001fa1e2b0e0baffe9e14c5c82"), looks := true }, kinds := [], alts := [], laidByText := true, laidKinds := [.data, .data, .data, .data, .sentinel, .sentinel, .pinned], laidTests := true, laidLooks := .later }
def CodeManyUptoCardSaid : Prop := Claim7.holds Tryz.pinned (.plain (OpenSpec.upto codeManySpec)) codeManyUptoCard

/-- THE SECOND FORM's CARD OF 'counterpanelaw21.WalNone'. -/
def walNoneUptoCard : Claim7 := { stood := { row := walNoneUptoRow, standIns := [], harness := (true, "d4ac7bd8517e499f30e48c140ad545fa3638aa001fa1e2b0e0baffe9e14c5c82"), looks := true }, kinds := [], alts := [], laidByText := true, laidKinds := [.data, .data, .data, .data, .sentinel, .sentinel, .pinned], laidTests := true, laidLooks := .later }
def WalNoneUptoCardSaid : Prop := Claim7.holds Tryz.pinned (.plain (OpenSpec.upto walNoneSpec)) walNoneUptoCard
end Rows
end Go.Proofs.YthjgmpfejgjbaaaGreatDoor

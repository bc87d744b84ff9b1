/-
  DERIVED. GIVEN WITH THE SEED: THE CARDS: each row of YtdblgbakljpacaaGreatDoorRows.lean that lists a variable, with what it lists TIED to the program's text (the seventh form; the later family's looks); each row that meets fmt, with fmt's text TOLD by the authors' own Lean function (tested against real Go, not proved from fmt's source: count such statements apart). THE CARD IS WHAT COUNTS. Prove the row's statement (the work); the ties are given (YtdblgbakljpacaaGreatDoorTie.lean); close each card by the builder's one call (the guide's Derived/Test/ToyasCard.lean, 'card_holds'). Laid BY PROGRAM, IN A SANDBOX (cutbox-door.mjs). By AI agents, Wed Nov 11 2026. No macro, syntax, notation, axiom, sorry.
-/
import Derived.Test.YtdblgbakljpacaaGreatDoorRows
import GoSem.ClaimSeven
namespace Go.Proofs.YtdblgbakljpacaaGreatDoor
namespace Rows

/-- THE TIED CARD OF 'counterpanelaw23.MessageKinds'. -/
def messageKindsCard : Claim7 := { stood := { row := messageKindsRow, standIns := [], harness := (true, "f4bdd3da89e86ceaa359cc45de8ac1a6b49517c2e091fddec45fcca87cbeb64e"), looks := true }, kinds := [], alts := [], laidByText := true, laidKinds := [.data, .data, .data, .data, .sentinel, .sentinel, .pinned], laidTests := true, laidLooks := .later }
def MessageKindsCardSaid : Prop := Claim7.holds Tryz.pinned (.plain (OpenSpec.ofChange messageKindsSpec)) messageKindsCard

/-- THE SECOND FORM's CARD OF 'counterpanelaw23.MessageKinds'. -/
def messageKindsUptoCard : Claim7 := { stood := { row := messageKindsUptoRow, standIns := [], harness := (true, "f4bdd3da89e86ceaa359cc45de8ac1a6b49517c2e091fddec45fcca87cbeb64e"), looks := true }, kinds := [], alts := [], laidByText := true, laidKinds := [.data, .data, .data, .data, .sentinel, .sentinel, .pinned], laidTests := true, laidLooks := .later }
def MessageKindsUptoCardSaid : Prop := Claim7.holds Tryz.pinned (.plain (OpenSpec.upto messageKindsSpec)) messageKindsUptoCard
end Rows
end Go.Proofs.YtdblgbakljpacaaGreatDoor

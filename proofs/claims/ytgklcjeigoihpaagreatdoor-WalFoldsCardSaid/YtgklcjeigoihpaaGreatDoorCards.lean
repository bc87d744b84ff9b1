/-
  DERIVED. GIVEN WITH THE SEED: THE CARDS: each row of YtgklcjeigoihpaaGreatDoorRows.lean that lists a variable, with what it lists TIED to the program's text (the seventh form; the later family's looks); each row that meets fmt, with fmt's text TOLD by the authors' own Lean function (tested against real Go, not proved from fmt's source: count such statements apart). THE CARD IS WHAT COUNTS. Prove the row's statement (the work); the ties are given (YtgklcjeigoihpaaGreatDoorTie.lean); close each card by the builder's one call (the guide's Derived/Test/ToyasCard.lean, 'card_holds'). Laid BY PROGRAM, IN A SANDBOX (cutbox-door.mjs). By AI agents, Wed Nov 11 2026. No macro, syntax, notation, axiom, sorry.
-/
import Derived.Test.YtgklcjeigoihpaaGreatDoorRows
import GoSem.ClaimSeven
namespace Go.Proofs.YtgklcjeigoihpaaGreatDoor
namespace Rows

/-- THE TIED CARD OF 'counterpanelaw21.WalFolds'. -/
def walFoldsCard : Claim7 := { stood := { row := walFoldsRow, standIns := [], harness := (true, "ceacb0900ca6e1ee02827e5f4692e93d0b95c885d5d5736c148d81076d3b1a19"), looks := true }, kinds := [], alts := [], laidByText := true, laidKinds := [.data, .data, .data, .data, .sentinel, .sentinel, .pinned], laidTests := true, laidLooks := .later }
def WalFoldsCardSaid : Prop := Claim7.holds Tryz.pinned (.plain (OpenSpec.ofChange walFoldsSpec)) walFoldsCard

/-- THE SECOND FORM's CARD OF 'counterpanelaw21.WalFolds'. -/
def walFoldsUptoCard : Claim7 := { stood := { row := walFoldsUptoRow, standIns := [], harness := (true, "ceacb0900ca6e1ee02827e5f4692e93d0b95c885d5d5736c148d81076d3b1a19"), looks := true }, kinds := [], alts := [], laidByText := true, laidKinds := [.data, .data, .data, .data, .sentinel, .sentinel, .pinned], laidTests := true, laidLooks := .later }
def WalFoldsUptoCardSaid : Prop := Claim7.holds Tryz.pinned (.plain (OpenSpec.upto walFoldsSpec)) walFoldsUptoCard
end Rows
end Go.Proofs.YtgklcjeigoihpaaGreatDoor

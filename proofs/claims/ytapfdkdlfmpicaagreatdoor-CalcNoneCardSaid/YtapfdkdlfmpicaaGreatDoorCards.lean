/-
  DERIVED. GIVEN WITH THE SEED: THE CARDS: each row of YtapfdkdlfmpicaaGreatDoorRows.lean that lists a variable, with what it lists TIED to the program's text (the seventh form; the later family's looks); each row that meets fmt, with fmt's text TOLD by the authors' own Lean function (tested against real Go, not proved from fmt's source: count such statements apart). THE CARD IS WHAT COUNTS. Prove the row's statement (the work); the ties are given (YtapfdkdlfmpicaaGreatDoorTie.lean); close each card by the builder's one call (the guide's Derived/Test/ToyasCard.lean, 'card_holds'). Laid BY PROGRAM, IN A SANDBOX (cutbox-door.mjs). By AI agents, Wed Nov 11 2026. No macro, syntax, notation, axiom, sorry.
-/
import Derived.Test.YtapfdkdlfmpicaaGreatDoorRows
import GoSem.ClaimSeven
namespace Go.Proofs.YtapfdkdlfmpicaaGreatDoor
namespace Rows

/-- THE TIED CARD OF 'counterpanelaw17.CalcNone'. -/
def calcNoneCard : Claim7 := { stood := { row := calcNoneRow, standIns := [], harness := (true, "320185a4a3d062ef71cd45c31b31357519c16d1745e66078642d4791cff5b36a"), looks := true }, kinds := [], alts := [], laidByText := true, laidKinds := [.data, .data, .data, .data, .sentinel, .sentinel, .pinned], laidTests := true, laidLooks := .later }
def CalcNoneCardSaid : Prop := Claim7.holds Tryz.pinned (.plain (OpenSpec.ofChange calcNoneSpec)) calcNoneCard

/-- THE SECOND FORM's CARD OF 'counterpanelaw17.CalcNone'. -/
def calcNoneUptoCard : Claim7 := { stood := { row := calcNoneUptoRow, standIns := [], harness := (true, "320185a4a3d062ef71cd45c31b31357519c16d1745e66078642d4791cff5b36a"), looks := true }, kinds := [], alts := [], laidByText := true, laidKinds := [.data, .data, .data, .data, .sentinel, .sentinel, .pinned], laidTests := true, laidLooks := .later }
def CalcNoneUptoCardSaid : Prop := Claim7.holds Tryz.pinned (.plain (OpenSpec.upto calcNoneSpec)) calcNoneUptoCard
end Rows
end Go.Proofs.YtapfdkdlfmpicaaGreatDoor

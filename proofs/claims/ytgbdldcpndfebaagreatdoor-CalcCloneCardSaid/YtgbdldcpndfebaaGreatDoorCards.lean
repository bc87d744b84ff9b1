/-
  DERIVED. GIVEN WITH THE SEED: THE CARDS: each row of YtgbdldcpndfebaaGreatDoorRows.lean that lists a variable, with what it lists TIED to the program's text (the seventh form; the later family's looks); each row that meets fmt, with fmt's text TOLD by the authors' own Lean function (tested against real Go, not proved from fmt's source: count such statements apart). THE CARD IS WHAT COUNTS. Prove the row's statement (the work); the ties are given (YtgbdldcpndfebaaGreatDoorTie.lean); close each card by the builder's one call (the guide's Derived/Test/ToyasCard.lean, 'card_holds'). Laid BY PROGRAM, IN A SANDBOX (cutbox-door.mjs). By AI agents, Wed Nov 11 2026. No macro, syntax, notation, axiom, sorry.
-/
import Derived.Test.YtgbdldcpndfebaaGreatDoorRows
import GoSem.ClaimSeven
namespace Go.Proofs.YtgbdldcpndfebaaGreatDoor
namespace Rows

/-- THE TIED CARD OF 'counterpanelaw17.CalcClone'. -/
def calcCloneCard : Claim7 := { stood := { row := calcCloneRow, standIns := [], harness := (true, "4cd89fbaed99bbc673366f5fe26827b4b4b57ba97826e5d59c5b5680f26ae541"), looks := true }, kinds := [], alts := [], laidByText := true, laidKinds := [.data, .data, .data, .data, .sentinel, .sentinel, .pinned], laidTests := true, laidLooks := .later }
def CalcCloneCardSaid : Prop := Claim7.holds Tryz.pinned (.plain (OpenSpec.ofChange calcCloneSpec)) calcCloneCard

/-- THE SECOND FORM's CARD OF 'counterpanelaw17.CalcClone'. -/
def calcCloneUptoCard : Claim7 := { stood := { row := calcCloneUptoRow, standIns := [], harness := (true, "4cd89fbaed99bbc673366f5fe26827b4b4b57ba97826e5d59c5b5680f26ae541"), looks := true }, kinds := [], alts := [], laidByText := true, laidKinds := [.data, .data, .data, .data, .sentinel, .sentinel, .pinned], laidTests := true, laidLooks := .later }
def CalcCloneUptoCardSaid : Prop := Claim7.holds Tryz.pinned (.plain (OpenSpec.upto calcCloneSpec)) calcCloneUptoCard
end Rows
end Go.Proofs.YtgbdldcpndfebaaGreatDoor

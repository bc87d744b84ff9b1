/-
  DERIVED. GIVEN WITH THE SEED: THE CARDS: each row of YtfnnannkoabobaaGreatDoorRows.lean that lists a variable, with what it lists TIED to the program's text (the seventh form; the later family's looks); each row that meets fmt, with fmt's text TOLD by the authors' own Lean function (tested against real Go, not proved from fmt's source: count such statements apart). THE CARD IS WHAT COUNTS. Prove the row's statement (the work); the ties are given (YtfnnannkoabobaaGreatDoorTie.lean); close each card by the builder's one call (the guide's Derived/Test/ToyasCard.lean, 'card_holds'). Laid BY PROGRAM, IN A SANDBOX (cutbox-door.mjs). By AI agents, Wed Nov 11 2026. No macro, syntax, notation, axiom, sorry.
-/
import Derived.Test.YtfnnannkoabobaaGreatDoorRows
import GoSem.ClaimSeven
namespace Go.Proofs.YtfnnannkoabobaaGreatDoor
namespace Rows

/-- THE TIED CARD OF 'counterpanelaw18.XformAlone'. -/
def xformAloneCard : Claim7 := { stood := { row := xformAloneRow, standIns := [], harness := (true, "3951681977f764eaae8cbd365409c31dc16c4e797e3d1f5f18ece243d9f20dbb"), looks := true }, kinds := [], alts := [], laidByText := true, laidKinds := [.data, .data, .data, .data, .sentinel, .sentinel, .pinned], laidTests := true, laidLooks := .later }
def XformAloneCardSaid : Prop := Claim7.holds Tryz.pinned (.plain (OpenSpec.ofChange xformAloneSpec)) xformAloneCard

/-- THE SECOND FORM's CARD OF 'counterpanelaw18.XformAlone'. -/
def xformAloneUptoCard : Claim7 := { stood := { row := xformAloneUptoRow, standIns := [], harness := (true, "3951681977f764eaae8cbd365409c31dc16c4e797e3d1f5f18ece243d9f20dbb"), looks := true }, kinds := [], alts := [], laidByText := true, laidKinds := [.data, .data, .data, .data, .sentinel, .sentinel, .pinned], laidTests := true, laidLooks := .later }
def XformAloneUptoCardSaid : Prop := Claim7.holds Tryz.pinned (.plain (OpenSpec.upto xformAloneSpec)) xformAloneUptoCard
end Rows
end Go.Proofs.YtfnnannkoabobaaGreatDoor

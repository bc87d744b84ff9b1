/-
  DERIVED. GIVEN WITH THE SEED: THE CARDS: each row of YtcdnkejpeggaeaaGreatDoorRows.lean that lists a variable, with what it lists TIED to the program's text (the seventh form; the later family's looks); each row that meets fmt, with fmt's text TOLD by the authors' own Lean function (tested against real Go, not proved from fmt's source: count such statements apart). THE CARD IS WHAT COUNTS. Prove the row's statement (the work); the ties are given (YtcdnkejpeggaeaaGreatDoorTie.lean); close each card by the builder's one call (the guide's Derived/Test/ToyasCard.lean, 'card_holds'). Laid BY PROGRAM, IN A SANDBOX (cutbox-door.mjs). By AI agents, Wed Nov 11 2026. No macro, syntax, notation, axiom, sorry.
-/
import Derived.Test.YtcdnkejpeggaeaaGreatDoorRows
import GoSem.ClaimSeven
namespace Go.Proofs.YtcdnkejpeggaeaaGreatDoor
namespace Rows

/-- THE TIED CARD OF 'counterpanelaw10.OpFields'. -/
def opFieldsCard : Claim7 := { stood := { row := opFieldsRow, standIns := [], harness := (true, "0e3b6864946bb11cbefb239d5bb8e36b02f472166a7f6db3bd9bbbe50c5a2d8a"), looks := true }, kinds := [], alts := [], laidByText := true, laidKinds := [.data, .data, .data, .data, .sentinel, .sentinel, .pinned], laidTests := true, laidLooks := .later }
def OpFieldsCardSaid : Prop := Claim7.holds Tryz.pinned (.plain (OpenSpec.ofChange opFieldsSpec)) opFieldsCard

/-- THE SECOND FORM's CARD OF 'counterpanelaw10.OpFields'. -/
def opFieldsUptoCard : Claim7 := { stood := { row := opFieldsUptoRow, standIns := [], harness := (true, "0e3b6864946bb11cbefb239d5bb8e36b02f472166a7f6db3bd9bbbe50c5a2d8a"), looks := true }, kinds := [], alts := [], laidByText := true, laidKinds := [.data, .data, .data, .data, .sentinel, .sentinel, .pinned], laidTests := true, laidLooks := .later }
def OpFieldsUptoCardSaid : Prop := Claim7.holds Tryz.pinned (.plain (OpenSpec.upto opFieldsSpec)) opFieldsUptoCard
end Rows
end Go.Proofs.YtcdnkejpeggaeaaGreatDoor

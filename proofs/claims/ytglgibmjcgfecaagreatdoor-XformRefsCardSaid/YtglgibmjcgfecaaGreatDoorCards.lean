/-
  DERIVED. GIVEN WITH THE SEED: THE CARDS: each row of YtglgibmjcgfecaaGreatDoorRows.lean that lists a variable, with what it lists TIED to the program's text (the seventh form; the later family's looks); each row that meets fmt, with fmt's text TOLD by the authors' own Lean function (tested against real Go, not proved from fmt's source: count such statements apart). THE CARD IS WHAT COUNTS. Prove the row's statement (the work); the ties are given (YtglgibmjcgfecaaGreatDoorTie.lean); close each card by the builder's one call (the guide's Derived/Test/ToyasCard.lean, 'card_holds'). Laid BY PROGRAM, IN A SANDBOX (cutbox-door.mjs). By AI agents, Wed Nov 11 2026. No macro, syntax, notation, axiom, sorry.
-/
import Derived.Test.YtglgibmjcgfecaaGreatDoorRows
import GoSem.ClaimSeven
namespace Go.Proofs.YtglgibmjcgfecaaGreatDoor
namespace Rows

/-- THE TIED CARD OF 'counterpanelaw18.XformFollows'. -/
def xformFollowsCard : Claim7 := { stood := { row := xformFollowsRow, standIns := [], harness := (true, "9b923059121a8670892be162b415793884456c9f67960ba0eaf44e052897edad"), looks := true }, kinds := [], alts := [], laidByText := true, laidKinds := [.data, .data, .data, .data, .sentinel, .sentinel, .pinned], laidTests := true, laidLooks := .later }
def XformFollowsCardSaid : Prop := Claim7.holds Tryz.pinned (.plain (OpenSpec.ofChange xformFollowsSpec)) xformFollowsCard

/-- THE TIED CARD OF 'counterpanelaw18.XformRefs'. -/
def xformRefsCard : Claim7 := { stood := { row := xformRefsRow, standIns := [], harness := (true, "9b923059121a8670892be162b415793884456c9f67960ba0eaf44e052897edad"), looks := true }, kinds := [], alts := [], laidByText := true, laidKinds := [.data, .data, .data, .data, .sentinel, .sentinel, .pinned], laidTests := true, laidLooks := .later }
def XformRefsCardSaid : Prop := Claim7.holds Tryz.pinned (.plain (OpenSpec.ofChange xformRefsSpec)) xformRefsCard

/-- THE SECOND FORM's CARD OF 'counterpanelaw18.XformFollows'. -/
def xformFollowsUptoCard : Claim7 := { stood := { row := xformFollowsUptoRow, standIns := [], harness := (true, "9b923059121a8670892be162b415793884456c9f67960ba0eaf44e052897edad"), looks := true }, kinds := [], alts := [], laidByText := true, laidKinds := [.data, .data, .data, .data, .sentinel, .sentinel, .pinned], laidTests := true, laidLooks := .later }
def XformFollowsUptoCardSaid : Prop := Claim7.holds Tryz.pinned (.plain (OpenSpec.upto xformFollowsSpec)) xformFollowsUptoCard

/-- THE SECOND FORM's CARD OF 'counterpanelaw18.XformRefs'. -/
def xformRefsUptoCard : Claim7 := { stood := { row := xformRefsUptoRow, standIns := [], harness := (true, "9b923059121a8670892be162b415793884456c9f67960ba0eaf44e052897edad"), looks := true }, kinds := [], alts := [], laidByText := true, laidKinds := [.data, .data, .data, .data, .sentinel, .sentinel, .pinned], laidTests := true, laidLooks := .later }
def XformRefsUptoCardSaid : Prop := Claim7.holds Tryz.pinned (.plain (OpenSpec.upto xformRefsSpec)) xformRefsUptoCard
end Rows
end Go.Proofs.YtglgibmjcgfecaaGreatDoor

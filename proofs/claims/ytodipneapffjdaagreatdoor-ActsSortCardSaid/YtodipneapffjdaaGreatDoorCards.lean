/-
  DERIVED. GIVEN WITH THE SEED: THE CARDS: each row of YtodipneapffjdaaGreatDoorRows.lean that lists a variable, with what it lists TIED to the program's text (the seventh form; the later family's looks); each row that meets fmt, with fmt's text TOLD by the authors' own Lean function (tested against real Go, not proved from fmt's source: count such statements apart). THE CARD IS WHAT COUNTS. Prove the row's statement (the work); the ties are given (YtodipneapffjdaaGreatDoorTie.lean); close each card by the builder's one call (the guide's Derived/Test/ToyasCard.lean, 'card_holds'). Laid BY PROGRAM, IN A SANDBOX (cutbox-door.mjs). By AI agents, Wed Nov 11 2026. No macro, syntax, notation, axiom, sorry.
-/
import Derived.Test.YtodipneapffjdaaGreatDoorRows
import GoSem.ClaimSeven
namespace Go.Proofs.YtodipneapffjdaaGreatDoor
namespace Rows

/-- THE TIED CARD OF 'priorartlaw18.ActsSort'. -/
def actsSortCard : Claim7 := { stood := { row := actsSortRow, standIns := [], harness := (true, "66af043db40192dbf6cf91c4b9ad1e3b6ccdddfa02a10cde964c37bd686f07ef"), looks := false }, kinds := [], alts := [], laidByText := true, laidKinds := [.data], laidTests := true, laidLooks := .later }
def ActsSortCardSaid : Prop := Claim7.holds Tryz.pinned (.plain (OpenSpec.ofChange actsSortSpec)) actsSortCard

/-- THE SECOND FORM's CARD OF 'priorartlaw18.ActsSort'. -/
def actsSortUptoCard : Claim7 := { stood := { row := actsSortUptoRow, standIns := [], harness := (true, "66af043db40192dbf6cf91c4b9ad1e3b6ccdddfa02a10cde964c37bd686f07ef"), looks := false }, kinds := [], alts := [], laidByText := true, laidKinds := [.data], laidTests := true, laidLooks := .later }
def ActsSortUptoCardSaid : Prop := Claim7.holds Tryz.pinned (.plain (OpenSpec.upto actsSortSpec)) actsSortUptoCard
end Rows
end Go.Proofs.YtodipneapffjdaaGreatDoor

/-
  DERIVED. GIVEN WITH THE SEED: THE CARDS: each row of YtgicfogmdfdjmaaGreatDoorRows.lean that lists a variable, with what it lists TIED to the program's text (the seventh form; the later family's looks); each row that meets fmt, with fmt's text TOLD by the authors' own Lean function (tested against real Go, not proved from fmt's source: count such statements apart). THE CARD IS WHAT COUNTS. Prove the row's statement (the work); the ties are given (YtgicfogmdfdjmaaGreatDoorTie.lean); close each card by the builder's one call (the guide's Derived/Test/ToyasCard.lean, 'card_holds'). Laid BY PROGRAM, IN A SANDBOX (cutbox-door.mjs). By AI agents, Wed Nov 11 2026. No macro, syntax, notation, axiom, sorry.
-/
import Derived.Test.YtgicfogmdfdjmaaGreatDoorRows
import GoSem.ClaimSeven
namespace Go.Proofs.YtgicfogmdfdjmaaGreatDoor
namespace Rows

/-- THE TIED CARD OF 'priorartlaw25.TitleOwners'. -/
def titleOwnersCard : Claim7 := { stood := { row := titleOwnersRow, standIns := [], harness := (true, "3ed849bb4ef9c0f0beee5eb8f6badd68e3c012ae727bca71c297a01d3dcb957c"), looks := false }, kinds := [], alts := [], laidByText := true, laidKinds := [.data], laidTests := true, laidLooks := .later }
def TitleOwnersCardSaid : Prop := Claim7.holds Tryz.pinned (.plain (OpenSpec.ofChange titleOwnersSpec)) titleOwnersCard

/-- THE TIED CARD OF 'priorartlaw25.TitleHolds'. -/
def titleHoldsCard : Claim7 := { stood := { row := titleHoldsRow, standIns := [], harness := (true, "3ed849bb4ef9c0f0beee5eb8f6badd68e3c012ae727bca71c297a01d3dcb957c"), looks := false }, kinds := [], alts := [], laidByText := true, laidKinds := [.data], laidTests := true, laidLooks := .later }
def TitleHoldsCardSaid : Prop := Claim7.holds Tryz.pinned (.plain (OpenSpec.ofChange titleHoldsSpec)) titleHoldsCard

/-- THE SECOND FORM's CARD OF 'priorartlaw25.TitleOwners'. -/
def titleOwnersUptoCard : Claim7 := { stood := { row := titleOwnersUptoRow, standIns := [], harness := (true, "3ed849bb4ef9c0f0beee5eb8f6badd68e3c012ae727bca71c297a01d3dcb957c"), looks := false }, kinds := [], alts := [], laidByText := true, laidKinds := [.data], laidTests := true, laidLooks := .later }
def TitleOwnersUptoCardSaid : Prop := Claim7.holds Tryz.pinned (.plain (OpenSpec.upto titleOwnersSpec)) titleOwnersUptoCard

/-- THE SECOND FORM's CARD OF 'priorartlaw25.TitleHolds'. -/
def titleHoldsUptoCard : Claim7 := { stood := { row := titleHoldsUptoRow, standIns := [], harness := (true, "3ed849bb4ef9c0f0beee5eb8f6badd68e3c012ae727bca71c297a01d3dcb957c"), looks := false }, kinds := [], alts := [], laidByText := true, laidKinds := [.data], laidTests := true, laidLooks := .later }
def TitleHoldsUptoCardSaid : Prop := Claim7.holds Tryz.pinned (.plain (OpenSpec.upto titleHoldsSpec)) titleHoldsUptoCard
end Rows
end Go.Proofs.YtgicfogmdfdjmaaGreatDoor

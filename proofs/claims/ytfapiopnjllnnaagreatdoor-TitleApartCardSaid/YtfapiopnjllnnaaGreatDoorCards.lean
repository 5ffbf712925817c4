/-
  DERIVED. GIVEN WITH THE SEED: THE CARDS: each row of YtfapiopnjllnnaaGreatDoorRows.lean that lists a variable, with what it lists TIED to the program's text (the seventh form; the later family's looks); each row that meets fmt, with fmt's text TOLD by the authors' own Lean function (tested against real Go, not proved from fmt's source: count such statements apart). THE CARD IS WHAT COUNTS. Prove the row's statement (the work); the ties are given (YtfapiopnjllnnaaGreatDoorTie.lean); close each card by the builder's one call (the guide's Derived/Test/ToyasCard.lean, 'card_holds'). Laid BY PROGRAM, IN A SANDBOX (cutbox-door.mjs). By AI agents, Wed Nov 11 2026. No macro, syntax, notation, axiom, sorry.
-/
import Derived.Test.YtfapiopnjllnnaaGreatDoorRows
import GoSem.ClaimSeven
namespace Go.Proofs.YtfapiopnjllnnaaGreatDoor
namespace Rows

/-- THE TIED CARD OF 'priorartlaw25.TitleOwners'. -/
def titleOwnersCard : Claim7 := { stood := { row := titleOwnersRow, standIns := [], harness := (true, "111d9de23f9fda928813e60310fa1d649250df9ebfabed9e987fef21befee462"), looks := false }, kinds := [], alts := [], laidByText := true, laidKinds := [.data], laidTests := true, laidLooks := .later }
def TitleOwnersCardSaid : Prop := Claim7.holds Tryz.pinned (.plain (OpenSpec.ofChange titleOwnersSpec)) titleOwnersCard

/-- THE TIED CARD OF 'priorartlaw25.TitleLater'. -/
def titleLaterCard : Claim7 := { stood := { row := titleLaterRow, standIns := [], harness := (true, "111d9de23f9fda928813e60310fa1d649250df9ebfabed9e987fef21befee462"), looks := false }, kinds := [], alts := [], laidByText := true, laidKinds := [.data], laidTests := true, laidLooks := .later }
def TitleLaterCardSaid : Prop := Claim7.holds Tryz.pinned (.plain (OpenSpec.ofChange titleLaterSpec)) titleLaterCard

/-- THE TIED CARD OF 'priorartlaw25.TitleStays'. -/
def titleStaysCard : Claim7 := { stood := { row := titleStaysRow, standIns := [], harness := (true, "111d9de23f9fda928813e60310fa1d649250df9ebfabed9e987fef21befee462"), looks := false }, kinds := [], alts := [], laidByText := true, laidKinds := [.data], laidTests := true, laidLooks := .later }
def TitleStaysCardSaid : Prop := Claim7.holds Tryz.pinned (.plain (OpenSpec.ofChange titleStaysSpec)) titleStaysCard

/-- THE TIED CARD OF 'priorartlaw25.TitleWhole'. -/
def titleWholeCard : Claim7 := { stood := { row := titleWholeRow, standIns := [], harness := (true, "111d9de23f9fda928813e60310fa1d649250df9ebfabed9e987fef21befee462"), looks := false }, kinds := [], alts := [], laidByText := true, laidKinds := [.data], laidTests := true, laidLooks := .later }
def TitleWholeCardSaid : Prop := Claim7.holds Tryz.pinned (.plain (OpenSpec.ofChange titleWholeSpec)) titleWholeCard

/-- THE TIED CARD OF 'priorartlaw25.TitleChain'. -/
def titleChainCard : Claim7 := { stood := { row := titleChainRow, standIns := [], harness := (true, "111d9de23f9fda928813e60310fa1d649250df9ebfabed9e987fef21befee462"), looks := false }, kinds := [], alts := [], laidByText := true, laidKinds := [.data], laidTests := true, laidLooks := .later }
def TitleChainCardSaid : Prop := Claim7.holds Tryz.pinned (.plain (OpenSpec.ofChange titleChainSpec)) titleChainCard

/-- THE TIED CARD OF 'priorartlaw25.TitleHolds'. -/
def titleHoldsCard : Claim7 := { stood := { row := titleHoldsRow, standIns := [], harness := (true, "111d9de23f9fda928813e60310fa1d649250df9ebfabed9e987fef21befee462"), looks := false }, kinds := [], alts := [], laidByText := true, laidKinds := [.data], laidTests := true, laidLooks := .later }
def TitleHoldsCardSaid : Prop := Claim7.holds Tryz.pinned (.plain (OpenSpec.ofChange titleHoldsSpec)) titleHoldsCard

/-- THE TIED CARD OF 'priorartlaw25.TitleOrder'. -/
def titleOrderCard : Claim7 := { stood := { row := titleOrderRow, standIns := [], harness := (true, "111d9de23f9fda928813e60310fa1d649250df9ebfabed9e987fef21befee462"), looks := false }, kinds := [], alts := [], laidByText := true, laidKinds := [.data], laidTests := true, laidLooks := .later }
def TitleOrderCardSaid : Prop := Claim7.holds Tryz.pinned (.plain (OpenSpec.ofChange titleOrderSpec)) titleOrderCard

/-- THE TIED CARD OF 'priorartlaw25.TitleApart'. -/
def titleApartCard : Claim7 := { stood := { row := titleApartRow, standIns := [], harness := (true, "111d9de23f9fda928813e60310fa1d649250df9ebfabed9e987fef21befee462"), looks := false }, kinds := [], alts := [], laidByText := true, laidKinds := [.data], laidTests := true, laidLooks := .later }
def TitleApartCardSaid : Prop := Claim7.holds Tryz.pinned (.plain (OpenSpec.ofChange titleApartSpec)) titleApartCard

/-- THE SECOND FORM's CARD OF 'priorartlaw25.TitleOwners'. -/
def titleOwnersUptoCard : Claim7 := { stood := { row := titleOwnersUptoRow, standIns := [], harness := (true, "111d9de23f9fda928813e60310fa1d649250df9ebfabed9e987fef21befee462"), looks := false }, kinds := [], alts := [], laidByText := true, laidKinds := [.data], laidTests := true, laidLooks := .later }
def TitleOwnersUptoCardSaid : Prop := Claim7.holds Tryz.pinned (.plain (OpenSpec.upto titleOwnersSpec)) titleOwnersUptoCard

/-- THE SECOND FORM's CARD OF 'priorartlaw25.TitleLater'. -/
def titleLaterUptoCard : Claim7 := { stood := { row := titleLaterUptoRow, standIns := [], harness := (true, "111d9de23f9fda928813e60310fa1d649250df9ebfabed9e987fef21befee462"), looks := false }, kinds := [], alts := [], laidByText := true, laidKinds := [.data], laidTests := true, laidLooks := .later }
def TitleLaterUptoCardSaid : Prop := Claim7.holds Tryz.pinned (.plain (OpenSpec.upto titleLaterSpec)) titleLaterUptoCard

/-- THE SECOND FORM's CARD OF 'priorartlaw25.TitleStays'. -/
def titleStaysUptoCard : Claim7 := { stood := { row := titleStaysUptoRow, standIns := [], harness := (true, "111d9de23f9fda928813e60310fa1d649250df9ebfabed9e987fef21befee462"), looks := false }, kinds := [], alts := [], laidByText := true, laidKinds := [.data], laidTests := true, laidLooks := .later }
def TitleStaysUptoCardSaid : Prop := Claim7.holds Tryz.pinned (.plain (OpenSpec.upto titleStaysSpec)) titleStaysUptoCard

/-- THE SECOND FORM's CARD OF 'priorartlaw25.TitleWhole'. -/
def titleWholeUptoCard : Claim7 := { stood := { row := titleWholeUptoRow, standIns := [], harness := (true, "111d9de23f9fda928813e60310fa1d649250df9ebfabed9e987fef21befee462"), looks := false }, kinds := [], alts := [], laidByText := true, laidKinds := [.data], laidTests := true, laidLooks := .later }
def TitleWholeUptoCardSaid : Prop := Claim7.holds Tryz.pinned (.plain (OpenSpec.upto titleWholeSpec)) titleWholeUptoCard

/-- THE SECOND FORM's CARD OF 'priorartlaw25.TitleChain'. -/
def titleChainUptoCard : Claim7 := { stood := { row := titleChainUptoRow, standIns := [], harness := (true, "111d9de23f9fda928813e60310fa1d649250df9ebfabed9e987fef21befee462"), looks := false }, kinds := [], alts := [], laidByText := true, laidKinds := [.data], laidTests := true, laidLooks := .later }
def TitleChainUptoCardSaid : Prop := Claim7.holds Tryz.pinned (.plain (OpenSpec.upto titleChainSpec)) titleChainUptoCard

/-- THE SECOND FORM's CARD OF 'priorartlaw25.TitleHolds'. -/
def titleHoldsUptoCard : Claim7 := { stood := { row := titleHoldsUptoRow, standIns := [], harness := (true, "111d9de23f9fda928813e60310fa1d649250df9ebfabed9e987fef21befee462"), looks := false }, kinds := [], alts := [], laidByText := true, laidKinds := [.data], laidTests := true, laidLooks := .later }
def TitleHoldsUptoCardSaid : Prop := Claim7.holds Tryz.pinned (.plain (OpenSpec.upto titleHoldsSpec)) titleHoldsUptoCard

/-- THE SECOND FORM's CARD OF 'priorartlaw25.TitleOrder'. -/
def titleOrderUptoCard : Claim7 := { stood := { row := titleOrderUptoRow, standIns := [], harness := (true, "111d9de23f9fda928813e60310fa1d649250df9ebfabed9e987fef21befee462"), looks := false }, kinds := [], alts := [], laidByText := true, laidKinds := [.data], laidTests := true, laidLooks := .later }
def TitleOrderUptoCardSaid : Prop := Claim7.holds Tryz.pinned (.plain (OpenSpec.upto titleOrderSpec)) titleOrderUptoCard

/-- THE SECOND FORM's CARD OF 'priorartlaw25.TitleApart'. -/
def titleApartUptoCard : Claim7 := { stood := { row := titleApartUptoRow, standIns := [], harness := (true, "111d9de23f9fda928813e60310fa1d649250df9ebfabed9e987fef21befee462"), looks := false }, kinds := [], alts := [], laidByText := true, laidKinds := [.data], laidTests := true, laidLooks := .later }
def TitleApartUptoCardSaid : Prop := Claim7.holds Tryz.pinned (.plain (OpenSpec.upto titleApartSpec)) titleApartUptoCard
end Rows
end Go.Proofs.YtfapiopnjllnnaaGreatDoor

/-
  DERIVED. GIVEN WITH THE SEED: THE CARDS: each row of YtcmjbjlliehdiaaDoorRows.lean that lists a variable, with what it lists TIED to the program's text (the seventh form; the later family's looks); each row that meets fmt, with fmt's text TOLD by the authors' own Lean function (tested against real Go, not proved from fmt's source: count such statements apart). THE CARD IS WHAT COUNTS. Prove the row's statement (the work); the ties are given (YtcmjbjlliehdiaaDoorTie.lean); close each card by the builder's one call (the guide's Derived/Test/ToyasCard.lean, 'card_holds'). Laid BY PROGRAM, IN A SANDBOX (cutbox-door.mjs). By AI agents, Wed Nov 11 2026. No macro, syntax, notation, axiom, sorry.
-/
import Derived.Test.YtcmjbjlliehdiaaDoorRows
import GoSem.ClaimSeven
namespace Go.Proofs.YtcmjbjlliehdiaaDoor
namespace Rows

/-- THE TIED CARD OF 'priorartlaw33.AuthmapHistory'. -/
def authmapHistoryCard : Claim7 := { stood := { row := authmapHistoryRow, standIns := [], harness := (true, "3dd07e03707fed098af0b29e227c2022f381c6e9eace86be1da3c2c5c8621a3c"), looks := false }, kinds := [], alts := [], laidByText := true, laidKinds := [.data], laidTests := true, laidLooks := .later }
def AuthmapHistoryCardSaid : Prop := Claim7.holds Tryd.pinned (.plain (OpenSpec.ofChange authmapHistorySpec)) authmapHistoryCard

/-- THE TIED CARD OF 'priorartlaw33.AuthmapHash'. -/
def authmapHashCard : Claim7 := { stood := { row := authmapHashRow, standIns := [], harness := (true, "3dd07e03707fed098af0b29e227c2022f381c6e9eace86be1da3c2c5c8621a3c"), looks := false }, kinds := [], alts := [], laidByText := true, laidKinds := [.data], laidTests := true, laidLooks := .later }
def AuthmapHashCardSaid : Prop := Claim7.holds Tryd.pinned (.plain (OpenSpec.ofChange authmapHashSpec)) authmapHashCard

/-- THE TIED CARD OF 'priorartlaw33.AuthmapBytes'. -/
def authmapBytesCard : Claim7 := { stood := { row := authmapBytesRow, standIns := [], harness := (true, "3dd07e03707fed098af0b29e227c2022f381c6e9eace86be1da3c2c5c8621a3c"), looks := false }, kinds := [], alts := [], laidByText := true, laidKinds := [.data], laidTests := true, laidLooks := .later }
def AuthmapBytesCardSaid : Prop := Claim7.holds Tryd.pinned (.plain (OpenSpec.ofChange authmapBytesSpec)) authmapBytesCard

/-- THE TIED CARD OF 'priorartlaw33.AuthmapChecks'. -/
def authmapChecksCard : Claim7 := { stood := { row := authmapChecksRow, standIns := [], harness := (true, "3dd07e03707fed098af0b29e227c2022f381c6e9eace86be1da3c2c5c8621a3c"), looks := false }, kinds := [], alts := [], laidByText := true, laidKinds := [.data], laidTests := true, laidLooks := .later }
def AuthmapChecksCardSaid : Prop := Claim7.holds Tryd.pinned (.plain (OpenSpec.ofChange authmapChecksSpec)) authmapChecksCard

/-- THE TIED CARD OF 'priorartlaw33.AuthmapRuns'. -/
def authmapRunsCard : Claim7 := { stood := { row := authmapRunsRow, standIns := [], harness := (true, "3dd07e03707fed098af0b29e227c2022f381c6e9eace86be1da3c2c5c8621a3c"), looks := false }, kinds := [], alts := [], laidByText := true, laidKinds := [.data], laidTests := true, laidLooks := .later }
def AuthmapRunsCardSaid : Prop := Claim7.holds Tryd.pinned (.plain (OpenSpec.ofChange authmapRunsSpec)) authmapRunsCard

/-- THE TIED CARD OF 'priorartlaw33.AuthmapRanges'. -/
def authmapRangesCard : Claim7 := { stood := { row := authmapRangesRow, standIns := [], harness := (true, "3dd07e03707fed098af0b29e227c2022f381c6e9eace86be1da3c2c5c8621a3c"), looks := false }, kinds := [], alts := [], laidByText := true, laidKinds := [.data], laidTests := true, laidLooks := .later }
def AuthmapRangesCardSaid : Prop := Claim7.holds Tryd.pinned (.plain (OpenSpec.ofChange authmapRangesSpec)) authmapRangesCard

/-- THE TIED CARD OF 'priorartlaw33.AuthmapSound'. -/
def authmapSoundCard : Claim7 := { stood := { row := authmapSoundRow, standIns := [], harness := (true, "3dd07e03707fed098af0b29e227c2022f381c6e9eace86be1da3c2c5c8621a3c"), looks := false }, kinds := [], alts := [], laidByText := true, laidKinds := [.data], laidTests := true, laidLooks := .later }
def AuthmapSoundCardSaid : Prop := Claim7.holds Tryd.pinned (.plain (OpenSpec.ofChange authmapSoundSpec)) authmapSoundCard

/-- THE TIED CARD OF 'priorartlaw33.AuthmapApart'. -/
def authmapApartCard : Claim7 := { stood := { row := authmapApartRow, standIns := [], harness := (true, "3dd07e03707fed098af0b29e227c2022f381c6e9eace86be1da3c2c5c8621a3c"), looks := false }, kinds := [], alts := [], laidByText := true, laidKinds := [.data], laidTests := true, laidLooks := .later }
def AuthmapApartCardSaid : Prop := Claim7.holds Tryd.pinned (.plain (OpenSpec.ofChange authmapApartSpec)) authmapApartCard

/-- THE SECOND FORM's CARD OF 'priorartlaw33.AuthmapHistory'. -/
def authmapHistoryUptoCard : Claim7 := { stood := { row := authmapHistoryUptoRow, standIns := [], harness := (true, "3dd07e03707fed098af0b29e227c2022f381c6e9eace86be1da3c2c5c8621a3c"), looks := false }, kinds := [], alts := [], laidByText := true, laidKinds := [.data], laidTests := true, laidLooks := .later }
def AuthmapHistoryUptoCardSaid : Prop := Claim7.holds Tryd.pinned (.plain (OpenSpec.upto authmapHistorySpec)) authmapHistoryUptoCard

/-- THE SECOND FORM's CARD OF 'priorartlaw33.AuthmapHash'. -/
def authmapHashUptoCard : Claim7 := { stood := { row := authmapHashUptoRow, standIns := [], harness := (true, "3dd07e03707fed098af0b29e227c2022f381c6e9eace86be1da3c2c5c8621a3c"), looks := false }, kinds := [], alts := [], laidByText := true, laidKinds := [.data], laidTests := true, laidLooks := .later }
def AuthmapHashUptoCardSaid : Prop := Claim7.holds Tryd.pinned (.plain (OpenSpec.upto authmapHashSpec)) authmapHashUptoCard

/-- THE SECOND FORM's CARD OF 'priorartlaw33.AuthmapBytes'. -/
def authmapBytesUptoCard : Claim7 := { stood := { row := authmapBytesUptoRow, standIns := [], harness := (true, "3dd07e03707fed098af0b29e227c2022f381c6e9eace86be1da3c2c5c8621a3c"), looks := false }, kinds := [], alts := [], laidByText := true, laidKinds := [.data], laidTests := true, laidLooks := .later }
def AuthmapBytesUptoCardSaid : Prop := Claim7.holds Tryd.pinned (.plain (OpenSpec.upto authmapBytesSpec)) authmapBytesUptoCard

/-- THE SECOND FORM's CARD OF 'priorartlaw33.AuthmapChecks'. -/
def authmapChecksUptoCard : Claim7 := { stood := { row := authmapChecksUptoRow, standIns := [], harness := (true, "3dd07e03707fed098af0b29e227c2022f381c6e9eace86be1da3c2c5c8621a3c"), looks := false }, kinds := [], alts := [], laidByText := true, laidKinds := [.data], laidTests := true, laidLooks := .later }
def AuthmapChecksUptoCardSaid : Prop := Claim7.holds Tryd.pinned (.plain (OpenSpec.upto authmapChecksSpec)) authmapChecksUptoCard

/-- THE SECOND FORM's CARD OF 'priorartlaw33.AuthmapRuns'. -/
def authmapRunsUptoCard : Claim7 := { stood := { row := authmapRunsUptoRow, standIns := [], harness := (true, "3dd07e03707fed098af0b29e227c2022f381c6e9eace86be1da3c2c5c8621a3c"), looks := false }, kinds := [], alts := [], laidByText := true, laidKinds := [.data], laidTests := true, laidLooks := .later }
def AuthmapRunsUptoCardSaid : Prop := Claim7.holds Tryd.pinned (.plain (OpenSpec.upto authmapRunsSpec)) authmapRunsUptoCard

/-- THE SECOND FORM's CARD OF 'priorartlaw33.AuthmapRanges'. -/
def authmapRangesUptoCard : Claim7 := { stood := { row := authmapRangesUptoRow, standIns := [], harness := (true, "3dd07e03707fed098af0b29e227c2022f381c6e9eace86be1da3c2c5c8621a3c"), looks := false }, kinds := [], alts := [], laidByText := true, laidKinds := [.data], laidTests := true, laidLooks := .later }
def AuthmapRangesUptoCardSaid : Prop := Claim7.holds Tryd.pinned (.plain (OpenSpec.upto authmapRangesSpec)) authmapRangesUptoCard

/-- THE SECOND FORM's CARD OF 'priorartlaw33.AuthmapSound'. -/
def authmapSoundUptoCard : Claim7 := { stood := { row := authmapSoundUptoRow, standIns := [], harness := (true, "3dd07e03707fed098af0b29e227c2022f381c6e9eace86be1da3c2c5c8621a3c"), looks := false }, kinds := [], alts := [], laidByText := true, laidKinds := [.data], laidTests := true, laidLooks := .later }
def AuthmapSoundUptoCardSaid : Prop := Claim7.holds Tryd.pinned (.plain (OpenSpec.upto authmapSoundSpec)) authmapSoundUptoCard

/-- THE SECOND FORM's CARD OF 'priorartlaw33.AuthmapApart'. -/
def authmapApartUptoCard : Claim7 := { stood := { row := authmapApartUptoRow, standIns := [], harness := (true, "3dd07e03707fed098af0b29e227c2022f381c6e9eace86be1da3c2c5c8621a3c"), looks := false }, kinds := [], alts := [], laidByText := true, laidKinds := [.data], laidTests := true, laidLooks := .later }
def AuthmapApartUptoCardSaid : Prop := Claim7.holds Tryd.pinned (.plain (OpenSpec.upto authmapApartSpec)) authmapApartUptoCard
end Rows
end Go.Proofs.YtcmjbjlliehdiaaDoor

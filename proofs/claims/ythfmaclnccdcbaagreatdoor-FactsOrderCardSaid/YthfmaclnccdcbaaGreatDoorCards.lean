/-
  DERIVED. GIVEN WITH THE SEED: THE CARDS: each row of YthfmaclnccdcbaaGreatDoorRows.lean that lists a variable, with what it lists TIED to the program's text (the seventh form; the later family's looks); each row that meets fmt, with fmt's text TOLD by the authors' own Lean function (tested against real Go, not proved from fmt's source: count such statements apart). THE CARD IS WHAT COUNTS. Prove the row's statement (the work); the ties are given (YthfmaclnccdcbaaGreatDoorTie.lean); close each card by the builder's one call (the guide's Derived/Test/ToyasCard.lean, 'card_holds'). Laid BY PROGRAM, IN A SANDBOX (cutbox-door.mjs). By AI agents, Wed Nov 11 2026. No macro, syntax, notation, axiom, sorry.
-/
import Derived.Test.YthfmaclnccdcbaaGreatDoorRows
import GoSem.ClaimSeven
namespace Go.Proofs.YthfmaclnccdcbaaGreatDoor
namespace Rows

/-- THE TIED CARD OF 'priorartlaw18.ActsValid'. -/
def actsValidCard : Claim7 := { stood := { row := actsValidRow, standIns := [], harness := (true, "db31ed258ce7a41239ed583f22c0f8a9fb2018df232d4073c203427e925a8601"), looks := false }, kinds := [], alts := [], laidByText := true, laidKinds := [.data], laidTests := true, laidLooks := .later }
def ActsValidCardSaid : Prop := Claim7.holds Tryz.pinned (.plain (OpenSpec.ofChange actsValidSpec)) actsValidCard

/-- THE TIED CARD OF 'priorartlaw18.ActsOrder'. -/
def actsOrderCard : Claim7 := { stood := { row := actsOrderRow, standIns := [], harness := (true, "db31ed258ce7a41239ed583f22c0f8a9fb2018df232d4073c203427e925a8601"), looks := false }, kinds := [], alts := [], laidByText := true, laidKinds := [.data], laidTests := true, laidLooks := .later }
def ActsOrderCardSaid : Prop := Claim7.holds Tryz.pinned (.plain (OpenSpec.ofChange actsOrderSpec)) actsOrderCard

/-- THE TIED CARD OF 'priorartlaw18.ActsHash'. -/
def actsHashCard : Claim7 := { stood := { row := actsHashRow, standIns := [], harness := (true, "db31ed258ce7a41239ed583f22c0f8a9fb2018df232d4073c203427e925a8601"), looks := false }, kinds := [], alts := [], laidByText := true, laidKinds := [.data], laidTests := true, laidLooks := .later }
def ActsHashCardSaid : Prop := Claim7.holds Tryz.pinned (.plain (OpenSpec.ofChange actsHashSpec)) actsHashCard

/-- THE TIED CARD OF 'priorartlaw18.ActsBytes'. -/
def actsBytesCard : Claim7 := { stood := { row := actsBytesRow, standIns := [], harness := (true, "db31ed258ce7a41239ed583f22c0f8a9fb2018df232d4073c203427e925a8601"), looks := false }, kinds := [], alts := [], laidByText := true, laidKinds := [.data], laidTests := true, laidLooks := .later }
def ActsBytesCardSaid : Prop := Claim7.holds Tryz.pinned (.plain (OpenSpec.ofChange actsBytesSpec)) actsBytesCard

/-- THE TIED CARD OF 'priorartlaw18.ActsChoose'. -/
def actsChooseCard : Claim7 := { stood := { row := actsChooseRow, standIns := [], harness := (true, "db31ed258ce7a41239ed583f22c0f8a9fb2018df232d4073c203427e925a8601"), looks := false }, kinds := [], alts := [], laidByText := true, laidKinds := [.data], laidTests := true, laidLooks := .later }
def ActsChooseCardSaid : Prop := Claim7.holds Tryz.pinned (.plain (OpenSpec.ofChange actsChooseSpec)) actsChooseCard

/-- THE TIED CARD OF 'priorartlaw19.FactsOrder'. -/
def factsOrderCard : Claim7 := { stood := { row := factsOrderRow, standIns := [], harness := (true, "db31ed258ce7a41239ed583f22c0f8a9fb2018df232d4073c203427e925a8601"), looks := false }, kinds := [], alts := [], laidByText := true, laidKinds := [.data], laidTests := true, laidLooks := .later }
def FactsOrderCardSaid : Prop := Claim7.holds Tryz.pinned (.plain (OpenSpec.ofChange factsOrderSpec)) factsOrderCard

/-- THE TIED CARD OF 'priorartlaw19.FactsAsks'. -/
def factsAsksCard : Claim7 := { stood := { row := factsAsksRow, standIns := [], harness := (true, "db31ed258ce7a41239ed583f22c0f8a9fb2018df232d4073c203427e925a8601"), looks := false }, kinds := [], alts := [], laidByText := true, laidKinds := [.data], laidTests := true, laidLooks := .later }
def FactsAsksCardSaid : Prop := Claim7.holds Tryz.pinned (.plain (OpenSpec.ofChange factsAsksSpec)) factsAsksCard

/-- THE TIED CARD OF 'priorartlaw19.FactsBetween'. -/
def factsBetweenCard : Claim7 := { stood := { row := factsBetweenRow, standIns := [], harness := (true, "db31ed258ce7a41239ed583f22c0f8a9fb2018df232d4073c203427e925a8601"), looks := false }, kinds := [], alts := [], laidByText := true, laidKinds := [.data], laidTests := true, laidLooks := .later }
def FactsBetweenCardSaid : Prop := Claim7.holds Tryz.pinned (.plain (OpenSpec.ofChange factsBetweenSpec)) factsBetweenCard

/-- THE TIED CARD OF 'priorartlaw19.FactsHash'. -/
def factsHashCard : Claim7 := { stood := { row := factsHashRow, standIns := [], harness := (true, "db31ed258ce7a41239ed583f22c0f8a9fb2018df232d4073c203427e925a8601"), looks := false }, kinds := [], alts := [], laidByText := true, laidKinds := [.data], laidTests := true, laidLooks := .later }
def FactsHashCardSaid : Prop := Claim7.holds Tryz.pinned (.plain (OpenSpec.ofChange factsHashSpec)) factsHashCard

/-- THE TIED CARD OF 'priorartlaw19.FactsLearns'. -/
def factsLearnsCard : Claim7 := { stood := { row := factsLearnsRow, standIns := [], harness := (true, "db31ed258ce7a41239ed583f22c0f8a9fb2018df232d4073c203427e925a8601"), looks := false }, kinds := [], alts := [], laidByText := true, laidKinds := [.data], laidTests := true, laidLooks := .later }
def FactsLearnsCardSaid : Prop := Claim7.holds Tryz.pinned (.plain (OpenSpec.ofChange factsLearnsSpec)) factsLearnsCard

/-- THE TIED CARD OF 'priorartlaw19.FactsPast'. -/
def factsPastCard : Claim7 := { stood := { row := factsPastRow, standIns := [], harness := (true, "db31ed258ce7a41239ed583f22c0f8a9fb2018df232d4073c203427e925a8601"), looks := false }, kinds := [], alts := [], laidByText := true, laidKinds := [.data], laidTests := true, laidLooks := .later }
def FactsPastCardSaid : Prop := Claim7.holds Tryz.pinned (.plain (OpenSpec.ofChange factsPastSpec)) factsPastCard

/-- THE SECOND FORM's CARD OF 'priorartlaw18.ActsValid'. -/
def actsValidUptoCard : Claim7 := { stood := { row := actsValidUptoRow, standIns := [], harness := (true, "db31ed258ce7a41239ed583f22c0f8a9fb2018df232d4073c203427e925a8601"), looks := false }, kinds := [], alts := [], laidByText := true, laidKinds := [.data], laidTests := true, laidLooks := .later }
def ActsValidUptoCardSaid : Prop := Claim7.holds Tryz.pinned (.plain (OpenSpec.upto actsValidSpec)) actsValidUptoCard

/-- THE SECOND FORM's CARD OF 'priorartlaw18.ActsOrder'. -/
def actsOrderUptoCard : Claim7 := { stood := { row := actsOrderUptoRow, standIns := [], harness := (true, "db31ed258ce7a41239ed583f22c0f8a9fb2018df232d4073c203427e925a8601"), looks := false }, kinds := [], alts := [], laidByText := true, laidKinds := [.data], laidTests := true, laidLooks := .later }
def ActsOrderUptoCardSaid : Prop := Claim7.holds Tryz.pinned (.plain (OpenSpec.upto actsOrderSpec)) actsOrderUptoCard

/-- THE SECOND FORM's CARD OF 'priorartlaw18.ActsHash'. -/
def actsHashUptoCard : Claim7 := { stood := { row := actsHashUptoRow, standIns := [], harness := (true, "db31ed258ce7a41239ed583f22c0f8a9fb2018df232d4073c203427e925a8601"), looks := false }, kinds := [], alts := [], laidByText := true, laidKinds := [.data], laidTests := true, laidLooks := .later }
def ActsHashUptoCardSaid : Prop := Claim7.holds Tryz.pinned (.plain (OpenSpec.upto actsHashSpec)) actsHashUptoCard

/-- THE SECOND FORM's CARD OF 'priorartlaw18.ActsBytes'. -/
def actsBytesUptoCard : Claim7 := { stood := { row := actsBytesUptoRow, standIns := [], harness := (true, "db31ed258ce7a41239ed583f22c0f8a9fb2018df232d4073c203427e925a8601"), looks := false }, kinds := [], alts := [], laidByText := true, laidKinds := [.data], laidTests := true, laidLooks := .later }
def ActsBytesUptoCardSaid : Prop := Claim7.holds Tryz.pinned (.plain (OpenSpec.upto actsBytesSpec)) actsBytesUptoCard

/-- THE SECOND FORM's CARD OF 'priorartlaw18.ActsChoose'. -/
def actsChooseUptoCard : Claim7 := { stood := { row := actsChooseUptoRow, standIns := [], harness := (true, "db31ed258ce7a41239ed583f22c0f8a9fb2018df232d4073c203427e925a8601"), looks := false }, kinds := [], alts := [], laidByText := true, laidKinds := [.data], laidTests := true, laidLooks := .later }
def ActsChooseUptoCardSaid : Prop := Claim7.holds Tryz.pinned (.plain (OpenSpec.upto actsChooseSpec)) actsChooseUptoCard

/-- THE SECOND FORM's CARD OF 'priorartlaw19.FactsOrder'. -/
def factsOrderUptoCard : Claim7 := { stood := { row := factsOrderUptoRow, standIns := [], harness := (true, "db31ed258ce7a41239ed583f22c0f8a9fb2018df232d4073c203427e925a8601"), looks := false }, kinds := [], alts := [], laidByText := true, laidKinds := [.data], laidTests := true, laidLooks := .later }
def FactsOrderUptoCardSaid : Prop := Claim7.holds Tryz.pinned (.plain (OpenSpec.upto factsOrderSpec)) factsOrderUptoCard

/-- THE SECOND FORM's CARD OF 'priorartlaw19.FactsAsks'. -/
def factsAsksUptoCard : Claim7 := { stood := { row := factsAsksUptoRow, standIns := [], harness := (true, "db31ed258ce7a41239ed583f22c0f8a9fb2018df232d4073c203427e925a8601"), looks := false }, kinds := [], alts := [], laidByText := true, laidKinds := [.data], laidTests := true, laidLooks := .later }
def FactsAsksUptoCardSaid : Prop := Claim7.holds Tryz.pinned (.plain (OpenSpec.upto factsAsksSpec)) factsAsksUptoCard

/-- THE SECOND FORM's CARD OF 'priorartlaw19.FactsBetween'. -/
def factsBetweenUptoCard : Claim7 := { stood := { row := factsBetweenUptoRow, standIns := [], harness := (true, "db31ed258ce7a41239ed583f22c0f8a9fb2018df232d4073c203427e925a8601"), looks := false }, kinds := [], alts := [], laidByText := true, laidKinds := [.data], laidTests := true, laidLooks := .later }
def FactsBetweenUptoCardSaid : Prop := Claim7.holds Tryz.pinned (.plain (OpenSpec.upto factsBetweenSpec)) factsBetweenUptoCard

/-- THE SECOND FORM's CARD OF 'priorartlaw19.FactsHash'. -/
def factsHashUptoCard : Claim7 := { stood := { row := factsHashUptoRow, standIns := [], harness := (true, "db31ed258ce7a41239ed583f22c0f8a9fb2018df232d4073c203427e925a8601"), looks := false }, kinds := [], alts := [], laidByText := true, laidKinds := [.data], laidTests := true, laidLooks := .later }
def FactsHashUptoCardSaid : Prop := Claim7.holds Tryz.pinned (.plain (OpenSpec.upto factsHashSpec)) factsHashUptoCard

/-- THE SECOND FORM's CARD OF 'priorartlaw19.FactsLearns'. -/
def factsLearnsUptoCard : Claim7 := { stood := { row := factsLearnsUptoRow, standIns := [], harness := (true, "db31ed258ce7a41239ed583f22c0f8a9fb2018df232d4073c203427e925a8601"), looks := false }, kinds := [], alts := [], laidByText := true, laidKinds := [.data], laidTests := true, laidLooks := .later }
def FactsLearnsUptoCardSaid : Prop := Claim7.holds Tryz.pinned (.plain (OpenSpec.upto factsLearnsSpec)) factsLearnsUptoCard

/-- THE SECOND FORM's CARD OF 'priorartlaw19.FactsPast'. -/
def factsPastUptoCard : Claim7 := { stood := { row := factsPastUptoRow, standIns := [], harness := (true, "db31ed258ce7a41239ed583f22c0f8a9fb2018df232d4073c203427e925a8601"), looks := false }, kinds := [], alts := [], laidByText := true, laidKinds := [.data], laidTests := true, laidLooks := .later }
def FactsPastUptoCardSaid : Prop := Claim7.holds Tryz.pinned (.plain (OpenSpec.upto factsPastSpec)) factsPastUptoCard
end Rows
end Go.Proofs.YthfmaclnccdcbaaGreatDoor

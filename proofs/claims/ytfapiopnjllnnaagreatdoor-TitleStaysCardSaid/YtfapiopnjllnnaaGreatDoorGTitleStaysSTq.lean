/- The seat's variable 'fields', out of the condition that lists it: nothing of it is used. -/
import Derived.Test.YtfapiopnjllnnaaGreatDoorGTitleStays43
import Derived.Test.YtfapiopnjllnnaaGreatDoorRows
import Derived.ProofKit
import Derived.LaidMore
import Derived.OpenShut
import Derived.Stop.Joined
namespace Go.Proofs.YtfapiopnjllnnaaGreatDoor
open Go.ChangeShapes Go.WideShapes Go.ChangeAt Go.RowKit
def laidQ : List (String × DataW Unit) := [("priorart/acts.fields", Rows.laid_priorart_acts_fields)]
theorem door_met (os : Os) (args : Array Value) : laidMetH Tryz.prog laidQ ((World.doorLaid Tryz.prog 14 os).forCall (fun _ _ => 0) ⟨#[], args, []⟩).memory :=
  laidMetH_of_parts3 (fuel := 8) (laidMet_of_run' 8 (by kernel_rfl) (by kernel_rfl)) (by kernel_rfl) (by kernel_rfl)
def WholeOK (_ : World) : Prop := True
theorem of_laid {W : World} (_ : laidMetH Tryz.prog laidQ W) : WholeOK W := trivial
end Go.Proofs.YtfapiopnjllnnaaGreatDoor

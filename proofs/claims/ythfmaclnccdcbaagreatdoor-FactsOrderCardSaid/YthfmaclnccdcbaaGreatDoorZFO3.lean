/- Part of a proof. -/
import Derived.Test.YthfmaclnccdcbaaGreatDoorZFO2
namespace Go.Proofs.YthfmaclnccdcbaaGreatDoor
open Go.RowKit PA
def Ij (g:Nat) (v:Value):Prop:=v=.pointer (some ⟨g,0,none⟩)
end Go.Proofs.YthfmaclnccdcbaaGreatDoor

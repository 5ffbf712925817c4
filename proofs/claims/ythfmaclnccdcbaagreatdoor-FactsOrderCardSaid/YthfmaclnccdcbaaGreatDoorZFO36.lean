/- Part of a proof. -/
import Derived.Test.YthfmaclnccdcbaaGreatDoorZFO32
import Derived.Test.YthfmaclnccdcbaaGreatDoorZFO35
namespace PA
open Go Go.RowKit
section
variable {α:Type} (c:α→α→Int)
end
end PA
namespace Go.Proofs.YthfmaclnccdcbaaGreatDoor
open Go.RowKit PA
def slA (x:Value) (lo hi mx:Option Value):Sem Value:=Instr.slice 23 x lo hi mx
theorem Ux (x:Value) (lo hi mx:Option Value):Instr.slice 23 x lo hi mx=slA x lo hi mx:=rfl
end Go.Proofs.YthfmaclnccdcbaaGreatDoor

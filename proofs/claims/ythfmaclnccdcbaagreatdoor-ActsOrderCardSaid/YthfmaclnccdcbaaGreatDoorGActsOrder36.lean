/- Part of a proof. -/
import Derived.Test.YthfmaclnccdcbaaGreatDoorGActsOrder35
import Derived.Test.YthfmaclnccdcbaaGreatDoorGActsOrder25
namespace PA
open Go Go.RowKit
section
variable {α:Type} (c:α→α→Int)
end
end PA
namespace Go.Proofs.YthfmaclnccdcbaaGreatDoor
open Go.RowKit PA
def slA (x:Value) (lo hi mx:Option Value):Sem Value:=Instr.slice 23 x lo hi mx
theorem Ry (x:Value) (lo hi mx:Option Value):Instr.slice 23 x lo hi mx=slA x lo hi mx:=rfl
end Go.Proofs.YthfmaclnccdcbaaGreatDoor

/- Part of a proof. -/
import Derived.Test.YthfmaclnccdcbaaGreatDoorZFO31
namespace Go.Proofs.YthfmaclnccdcbaaGreatDoor
open Go.RowKit PA
def bsP (n:Nat) (p:Array (Nat×Value)):Sem Value:=Instr.buildSlice 101 n p
theorem I9 (n:Nat) (p:Array (Nat×Value)):Instr.buildSlice 101 n p=bsP n p:=rfl
attribute [local go_sem ↓] aY bI aV I9
end Go.Proofs.YthfmaclnccdcbaaGreatDoor

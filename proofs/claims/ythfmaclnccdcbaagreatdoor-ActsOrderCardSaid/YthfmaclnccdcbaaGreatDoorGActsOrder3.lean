/- Part of a proof. -/
import Derived.Test.YthfmaclnccdcbaaGreatDoorGActsOrder2
namespace Go.Proofs.YthfmaclnccdcbaaGreatDoor
open Go.RowKit PA
theorem xB {J:Mem} {B:Nat} {x:Ac} (hJ:J B=some (.cells x.cells.toArray 36 (0,0))) {w':World} (he:Ext J w') (i:Nat):w'.cell? ⟨B,i,none⟩=x.cells[i]?:=by
 rw[cell_of_row w' B i _ _ _ (he _ _ hJ)];simp
def F9 (g:Nat) (v:Value):Prop:=v=.pointer (some ⟨g,0,none⟩)
end Go.Proofs.YthfmaclnccdcbaaGreatDoor

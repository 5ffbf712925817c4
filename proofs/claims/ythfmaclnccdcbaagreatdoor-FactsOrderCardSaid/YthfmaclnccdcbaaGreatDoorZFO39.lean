/- Part of a proof. -/
import Derived.Test.YthfmaclnccdcbaaGreatDoorZFO36
import Derived.Test.YthfmaclnccdcbaaGreatDoorZFO38
namespace Go.Proofs.YthfmaclnccdcbaaGreatDoor
open Go.RowKit PA
theorem VE {J:Mem} {a:Option Addr} {xs:List Ac} (hc:dF a (bY xs) J) (hne:xs≠[]):∃b o,a=some ⟨b,o,none⟩∧∀w',Ext J w'→∀(i:Nat) (hi:i<xs.length),Sem.run Tryz.prog (mg (.pointer (some ⟨b,o+i*19,none⟩))) w'=.ok (.agg xs[i].cells.toArray) w':=by
 have hne2:bY xs≠[]:=fun e=>by
  have h1:=congrArg List.length e;rw[kS,List.length_nil] at h1;exact hne (Ju (by omega))
 obtain⟨b,o,rfl,hcell⟩:=lD hc hne2;refine⟨b,o,rfl,fun w' he i hi=>sV fun j v hj=>?_⟩;have hjl:j<19:=(qM hj).1;have h2:=hcell w' he (i*19+j) v (by rw[zG xs i hi j hjl];exact hj)
 rwa [show o+i*19+j=o+(i*19+j) by omega]
attribute [local go_sem ↓] aY bI aV Ux ji
end Go.Proofs.YthfmaclnccdcbaaGreatDoor

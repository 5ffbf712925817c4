/- Part of a proof. -/
import Derived.Test.YthfmaclnccdcbaaGreatDoorGActsOrder36
import Derived.Test.YthfmaclnccdcbaaGreatDoorGActsOrder27
namespace Go.Proofs.YthfmaclnccdcbaaGreatDoor
open Go.RowKit PA
theorem Jt {J:Mem} {a:Option Addr} {xs:List Ac} (hc:gY a (dA xs) J) (hne:xs≠[]):∃b o,a=some ⟨b,o,none⟩∧∀w',Ext J w'→∀(i:Nat) (hi:i<xs.length),Sem.run Tryz.prog (jA (.pointer (some ⟨b,o+i*19,none⟩))) w'=.ok (.agg xs[i].cells.toArray) w':=by
 have hne2:dA xs≠[]:=fun e=>by
  have h1:=congrArg List.length e;rw[jY,List.length_nil] at h1;exact hne (List.eq_nil_of_length_eq_zero (by omega))
 obtain⟨b,o,rfl,hcell⟩:=pO hc hne2;refine⟨b,o,rfl,fun w' he i hi=>rE fun j v hj=>?_⟩;have hjl:j<19:=(List.getElem?_eq_some_iff.1 hj).1;have h2:=hcell w' he (i*19+j) v (by rw[Bl xs i hi j hjl];exact hj)
 rwa [show o+i*19+j=o+(i*19+j) by omega]
attribute [local go_sem ↓] bW dB aY Ry o8
end Go.Proofs.YthfmaclnccdcbaaGreatDoor

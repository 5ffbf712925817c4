/- Part of a proof. -/
import Derived.Test.YthfmaclnccdcbaaGreatDoorGActsOrder22
import Derived.Test.YthfmaclnccdcbaaGreatDoorGActsOrder27
namespace Go.Proofs.YthfmaclnccdcbaaGreatDoor
open Go.RowKit PA
theorem Ef {W w:World} {A:aC} {I:Mem} (va:Value) (l:List Int) (most:Nat) (hm:most≤14) (hv:Qq I va l) (h:Sat W w (sep (kn I) A)):
 Calls Tryz.prog 14 #[va,.int .i64 most] w (O7 W I A most):=by
 refine (IX va l most hm hv h).mono ?_;rintro e w' ⟨a,n,c,zl,ps,J,rfl,hn,Ue,hn0,hle,hall,J7,h1⟩;have hsp:=Xb hall J7 (by omega);obtain⟨Ls,hL,hp⟩:=Lc (P:=fun z p=>kX J z p∧wo 2 p∧aZ p=true) zl fun z hz=>by
  obtain⟨i,hi,rfl⟩:=List.mem_iff_getElem.1 hz;obtain⟨p,p1,p2,p3,-⟩:=hsp i _ (List.getElem?_eq_getElem hi);exact⟨p,p1,p2,p3⟩
 subst hL;exact⟨a,n,c,Ls,J,rfl,by rw[hn,List.length_map],Ue,hn0,hle,fun p hp'=>⟨(hp p hp').1,(hp p hp').2.1⟩,fun p hp'=>(hp p hp').2.2,h1⟩
end Go.Proofs.YthfmaclnccdcbaaGreatDoor

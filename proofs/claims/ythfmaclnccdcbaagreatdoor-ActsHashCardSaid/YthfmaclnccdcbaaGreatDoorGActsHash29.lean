/- Part of a proof. -/
import Derived.Test.YthfmaclnccdcbaaGreatDoorGActsHash23
import Derived.Test.YthfmaclnccdcbaaGreatDoorGActsHash28
namespace Go.Proofs.YthfmaclnccdcbaaGreatDoor
open Go.RowKit PA
theorem D7 {W w:World} {A:aA} {I:Mem} (va:Value) (l:List Int) (most:Nat) (hm:most≤14) (hv:Qw I va l) (h:Sat W w (sep (kn I) A)):
 Calls Tryz.prog 14 #[va,.int .i64 most] w (Ph W I A most):=by
 refine (IX va l most hm hv h).mono ?_;rintro e w' ⟨a,n,c,zl,ps,J,rfl,hn,Ui,hn0,hle,hall,Kq,h1⟩;have hsp:=Xm hall Kq (by omega);obtain⟨Ls,hL,hp⟩:=Ll (P:=fun z p=>mM J z p∧AP 2 p∧bW p=true) zl fun z hz=>by
  obtain⟨i,hi,rfl⟩:=List.mem_iff_getElem.1 hz;obtain⟨p,p1,p2,p3,-⟩:=hsp i _ (List.getElem?_eq_getElem hi);exact⟨p,p1,p2,p3⟩
 subst hL;exact⟨a,n,c,Ls,J,rfl,by rw[hn,List.length_map],Ui,hn0,hle,fun p hp'=>⟨(hp p hp').1,(hp p hp').2.1⟩,fun p hp'=>(hp p hp').2.2,h1⟩
end Go.Proofs.YthfmaclnccdcbaaGreatDoor

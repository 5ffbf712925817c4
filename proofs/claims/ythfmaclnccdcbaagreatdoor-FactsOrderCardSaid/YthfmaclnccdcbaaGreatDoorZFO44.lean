/- Part of a proof. -/
import Derived.Test.YthfmaclnccdcbaaGreatDoorZFO22
namespace PA
open Go Go.RowKit
theorem Zw {J:Mem} {zl:List Ac} {ps:List Pa} (h:gU (lT J) zl ps) (hm:Made ps) (hn:zl.length≤14):∀(i:Nat) (z:Ac),zl[i]?=some z→∃p,lT J z p∧wO 2 p∧bC p=true∧p.n=4*(i:Int):=by
 intro i z hz;obtain⟨hi,rfl⟩:=qM hz;have hl:=h.length;have hp:i<ps.length:=by omega
 have h1:=h.get i hi hp;obtain⟨h2,h3,-⟩:=hm i hp;have hf:BI (ps.take i)≤100:=by
  have:BI (ps.take i)≤(ps.take i).length:=List.length_filter_le _ _;rw[List.length_take] at this;omega
 have hb:0≤ps[i].n∧ps[i].n≤1000000:=by rw[h3];omega
 exact⟨ps[i],h1,(MG hf h2 hb).sp,MH hf h2 hb,h3⟩
end PA

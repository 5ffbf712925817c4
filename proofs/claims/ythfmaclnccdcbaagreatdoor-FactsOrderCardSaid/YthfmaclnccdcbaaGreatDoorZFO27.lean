/- Part of a proof. -/
import Derived.Test.YthfmaclnccdcbaaGreatDoorZFO21
namespace Go.Proofs.YthfmaclnccdcbaaGreatDoor
open Go.RowKit PA
theorem Qp:okR ⟨1,1⟩=true:=uS 1 1 (by omega) (by omega) (by decide) (by rfl)
def Y4 (n d:Int):Int:=if okR ⟨n,d⟩=true then (if n<d then -1 else if d<n then 1 else 0) else 0
theorem ltR_1 (n d:Int):Qg ⟨n,d⟩ ⟨1,1⟩=decide (n<d):=by unfold Qg;simp
theorem ltR_1' (n d:Int):Qg ⟨1,1⟩ ⟨n,d⟩=decide (d<n):=by unfold Qg;simp
set_option maxHeartbeats 1000000 in
theorem NU {W w:World} {A:aB} (n d:Int) (h:Sat W w A):
 Calls Tryz.prog 164 #[.agg #[.int .i64 n,.int .i64 d],.agg #[.int .i64 1,.int .i64 1]] w fun e w'=>e=.returned (.int .i64 (Sr (okR ⟨n,d⟩)))∧Sat W w' A:=by
 have h1:=(h.alloc (.cells #[.int .i64 n,.int .i64 d] 26)).alloc (.cells #[.int .i64 1,.int .i64 1] 26);rw[World.size_alloc] at h1;obtain⟨B,hB⟩:=aC (w.heap.size);obtain⟨w1,hw1⟩:=aC ((w.alloc (.cells #[.int .i64 n,.int .i64 d] 26)).alloc (.cells #[.int .i64 1,.int .i64 1] 26));rw[←hB,←hw1] at h1;have HB:=ah (aH hB hw1);obtain⟨j0,j1,-,-⟩:=kX h1;obtain⟨k0,k1,-,-⟩:=kX h1.p1;have HV:=ah (nJ n d h1);obtain⟨o,ho⟩:=aC (okR ⟨n,d⟩);rw[←ho] at HV ⊢;clear h h1 hB hw1 ho;cases o with
 | false=>
  go_enter Tryz.func164,Tryz.ntmps164;go_upto_region 1 with fail;simp only[←HB.out.1];rw[←HB.out.2];go_wp2_with fail;refine HV.out.mono ?_;rintro e w2 ⟨rfl,h2⟩;have H2:=ah h2.drop.drop;clear h2 HV j0 j1 k0 k1;unfold Sr;go_wp2;go_ret;exact⟨rfl,H2.out⟩
 | true=>
  go_enter Tryz.func164,Tryz.ntmps164;go_upto_region 1 with fail;simp only[←HB.out.1];rw[←HB.out.2];go_wp2_with fail;refine HV.out.mono ?_;rintro e w2 ⟨rfl,h2⟩;obtain⟨j0,j1,-,-⟩:=kX h2;have hv2:=nJ 1 1 h2;rw[Qp] at hv2;have pO:=ah hv2;clear h2 HV k0 k1 hv2;unfold Sr;go_wp2_with fail;refine pO.out.mono ?_;rintro e w3 ⟨rfl,h3⟩;have H3:=ah h3.drop.drop;clear h3 pO j0 j1;unfold Sr;go_wp2;go_ret;exact⟨rfl,H3.out⟩
set_option maxHeartbeats 1000000 in
theorem Qv {W w:World} {A:aB} (n d:Int) (h:Sat W w A):
 Calls Tryz.prog 121 #[.agg #[.int .i64 n,.int .i64 d],.agg #[.int .i64 1,.int .i64 1]] w fun e w'=>∃ev:Int,e=.returned (.tuple #[.int .i64 (Y4 n d),.int .i64 ev])∧Sat W w' A:=by
 have h1:=(h.alloc (.cells #[.int .i64 n,.int .i64 d] 26)).alloc (.cells #[.int .i64 1,.int .i64 1] 26);rw[World.size_alloc] at h1;obtain⟨B,hB⟩:=aC (w.heap.size);obtain⟨w1,hw1⟩:=aC ((w.alloc (.cells #[.int .i64 n,.int .i64 d] 26)).alloc (.cells #[.int .i64 1,.int .i64 1] 26));rw[←hB,←hw1] at h1;have HB:=ah (aH hB hw1);obtain⟨j0,j1,-,-⟩:=kX h1;obtain⟨k0,k1,-,-⟩:=kX h1.p1;have HV:=ah (NU n d h1);obtain⟨o,ho⟩:=aC (okR ⟨n,d⟩);obtain⟨cv,hcv⟩:=aC (Y4 n d);have hcv2:cv=if o=true then (if n<d then -1 else if d<n then 1 else 0) else 0:=by rw[hcv,ho];rfl
 have FQ:Hid (o=true→∀w' A',Sat W w' A'→Calls Tryz.prog 165 #[.agg #[.int .i64 n,.int .i64 d],.agg #[.int .i64 1,.int .i64 1]] w' fun e w''=>e=.returned (.bool (decide (n<d)))∧Sat W w'' A'):=ah fun e w' A' h'=>by
  rw[←ltR_1];exact sQ ⟨n,d⟩ ⟨1,1⟩ (oV (by rw[←ho];exact e)).1 (oV Qp).1 h'
 have HL2:Hid (o=true→∀w' A',Sat W w' A'→Calls Tryz.prog 165 #[.agg #[.int .i64 1,.int .i64 1],.agg #[.int .i64 n,.int .i64 d]] w' fun e w''=>e=.returned (.bool (decide (d<n)))∧Sat W w'' A'):=ah fun e w' A' h'=>by
  rw[←ltR_1'];exact sQ ⟨1,1⟩ ⟨n,d⟩ (oV Qp).1 (oV (by rw[←ho];exact e)).1 h'
 rw[←ho] at HV;rw[←hcv];have Dk:=ah hcv2;obtain⟨Po,dS⟩:∃P:Ending→World→Prop,P=fun e w'=>∃ev:Int,e=.returned (.tuple #[.int .i64 cv,.int .i64 ev])∧Sat W w' A:=⟨_,rfl⟩
 rw[←dS];have bK:=ah dS;clear h h1 hB hw1 ho hcv hcv2 dS;cases o with
 | false=>
  go_enter Tryz.func121,Tryz.ntmps121;go_upto_region 1 with fail;simp only[←HB.out.1];rw[←HB.out.2];go_wp2_with fail;refine HV.out.mono ?_;rintro e w2 ⟨rfl,h2⟩;have H2:=ah h2.drop.drop;clear h2 HV j0 j1 k0 k1 FQ HL2;unfold Sr;go_wp2;rw[bK.out];exact⟨1,by rw[Dk.out];rfl,H2.out⟩
 | true=>
  go_enter Tryz.func121,Tryz.ntmps121;go_upto_region 1 with fail;simp only[←HB.out.1];rw[←HB.out.2];go_wp2_with fail;refine HV.out.mono ?_;rintro e w2 ⟨rfl,h2⟩;clear j0 j1 k0 k1;obtain⟨j0,j1,-,-⟩:=kX h2;obtain⟨k0,k1,-,-⟩:=kX h2.p1;have H2:=ah h2;clear h2 HV;unfold Sr;go_wp2_with fail;refine (FQ.out (by first|rfl|trivial) _ _ H2.out).mono ?_;rintro e w3 ⟨rfl,h3⟩;clear j0 j1 k0 k1;obtain⟨j0,j1,-,-⟩:=kX h3;obtain⟨k0,k1,-,-⟩:=kX h3.p1;have H3:=ah h3;clear h3 H2 FQ;by_cases c1:n<d
  ·have HF:=ah H3.out.drop.drop
   have HC:Hid (cv=-1):=ah (by rw[Dk.out];simp[c1]);clear HL2;go_wp2;rw[bK.out];exact⟨0,by rw[HC.out];rfl,HF.out⟩
  ·go_wp2_with fail
   refine (HL2.out (by first|rfl|trivial) _ _ H3.out).mono ?_;rintro e w4 ⟨rfl,h4⟩;have HF:=ah h4.drop.drop;clear h4 H3 j0 j1 k0 k1;by_cases c2:d<n
   ·have HC:Hid (cv=1):=ah (by rw[Dk.out];simp only[if_true];rw[if_neg (by omega),if_pos c2])
    go_wp2;rw[bK.out];exact⟨0,by rw[HC.out];rfl,HF.out⟩
   ·have HC:Hid (cv=0):=ah (by rw[Dk.out];simp only[if_true];rw[if_neg (by omega),if_neg (by omega)])
    go_wp2;rw[bK.out];exact⟨0,by rw[HC.out];rfl,HF.out⟩
theorem qK {W w:World} {A:aB} {I:Mem} (a:Option Addr) (n c:Nat) (l:List Cl) (hv:(lM.slice 5).rel I [.slice a n c] l) (hB:∀x∈l,x.body.size≤nN) (h:Sat W w (sep (kn I) A)):
 Calls Tryz.prog 120 #[.slice a n c] w fun e w'=>e=.returned (.bool (gZ l))∧Sat W w' (sep (kn I) A):=by
 have hn:=(aJ hv).1;have hl63:=(aJ hv).2.2;have HV:=ah (lV a n c l hv hB h);obtain⟨ce,hce⟩:=aC (qQ l);obtain⟨rv,dQ⟩:=aC (gZ l);have jW:rv=(decide (0<n)&&decide (ce=0)):=by rw[dQ,hn,hce];rfl
 rw[←hce] at HV;rw[←dQ];have bU:=ah jW;have H:=ah h;clear hv hB h hn hce dQ jW;by_cases h0:0<n
 ·have h0z:(0:Int)<(n:Int):=by omega
  go_enter Tryz.func120,Tryz.ntmps120;go_wp2_with fail;refine HV.out.mono ?_;rintro e w2 ⟨rfl,h2⟩;have H2:=ah h2;clear h2 HV;go_wp2;go_ret;exact⟨by rw[bU.out,decide_eq_true h0];rfl,H2.out⟩
 ·have h0z:n=0:=by omega
  subst h0z;go_enter Tryz.func120,Tryz.ntmps120;go_wp2;go_ret;exact⟨by rw[bU.out];rfl,H.out⟩
end Go.Proofs.YthfmaclnccdcbaaGreatDoor

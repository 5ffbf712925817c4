/- Part of a proof. -/
import Derived.Test.YthfmaclnccdcbaaGreatDoorZFO8
namespace Go.Proofs.YthfmaclnccdcbaaGreatDoor
open Go.RowKit PA
set_option maxHeartbeats 4000000
theorem sQ {W w:World} {A:aB} (a b:Rt) (ha:Rok a) (hb:Rok b) (h:Sat W w A):
 Calls Tryz.prog 165 #[.agg #[.int .i64 a.n,.int .i64 a.d],.agg #[.int .i64 b.n,.int .i64 b.d]] w fun e w'=>e=.returned (.bool (Qg a b))∧Sat W w' A:=by
 obtain⟨an,ad⟩:=a;obtain⟨bn,bd⟩:=b;obtain⟨p,hp⟩:=aC (an*bd);obtain⟨q,hq⟩:=aC (bn*ad);have m1:=Jy ha.n1 ha.n2 (by have:=hb.d1;simp only at *;omega) hb.d2;have m2:=Jy hb.n1 hb.n2 (by have:=ha.d1;simp only at *;omega) ha.d2;simp only at m1 m2;rw[←hp] at m1;rw[←hq] at m2;have hr:Qg ⟨an,ad⟩ ⟨bn,bd⟩=decide (p<q):=by unfold Qg;rw[hp,hq]
 have e1:an*bd=p:=hp.symm;have e2:bn*ad=q:=hq.symm;obtain⟨m11,m12⟩:=m1;obtain⟨m21,m22⟩:=m2;rw[hr];clear ha hb hp hq hr;have HS:=ah ((h.iy (.cells #[.int .i64 an,.int .i64 ad] 26)).iy (.cells #[.int .i64 bn,.int .i64 bd] 26));clear h;go_enter Tryz.func165,Tryz.ntmps165;go_wp2;go_ret;exact⟨rfl,HS.out⟩
theorem Bv {W w:World} {A:aB} (n d:Int) (h:Sat W w A):
 Calls Tryz.prog 236 #[.agg #[.int .i64 n,.int .i64 d]] w fun e w'=>e=.returned (.bool (fD ⟨n,d⟩))∧Sat W w' A:=by
 have h1:=h.alloc (.cells #[.int .i64 n,.int .i64 d] 26);obtain⟨B,hB⟩:=aC (w.heap.size);obtain⟨w1,hw1⟩:=aC (w.alloc (.cells #[.int .i64 n,.int .i64 d] 26));rw[←hB,←hw1] at h1;obtain⟨k0,k1,-,-⟩:=kX h1;have HB:=ah (aH hB hw1);have HV:=ah (nJ n d h1);obtain⟨o,ho⟩:=aC (okR ⟨n,d⟩);rw[←ho] at HV;have hr:fD ⟨n,d⟩=(o&&(decide (n≤1073741824)&&(decide (-1073741824≤n)&&decide (d≤32768)))):=by unfold fD;rw[ho]
 rw[hr];clear hr ho h h1 hB hw1;cases o with
 | false=>
  go_enter Tryz.func236,Tryz.ntmps236;go_upto_region 1 with fail;rw[←HB.out.1,←HB.out.2];go_wp2_with fail;refine HV.out.mono ?_;rintro e w2 ⟨rfl,h2⟩;have H2:=ah h2;clear h2 HV k0 k1;unfold Sr;go_wp2;go_ret;exact⟨rfl,H2.out.drop⟩
 | true=>
  obtain⟨v,hv⟩:=aC ((true&&(decide (n≤1073741824)&&(decide (-1073741824≤n)&&decide (d≤32768)))));rw[←hv];have HVV:=ah hv;clear hv;rcases (show 1073741824<n∨n≤1073741824 by omega) with c1|c1
  ·
   go_enter Tryz.func236,Tryz.ntmps236;go_upto_region 1 with fail;rw[←HB.out.1,←HB.out.2];go_wp2_with fail;refine HV.out.mono ?_;rintro e w2 ⟨rfl,h2⟩;obtain⟨k0,k1,-,-⟩:=kX h2;have H2:=ah h2;clear h2 HV;unfold Sr;go_wp2;go_ret;exact⟨by rw[HVV.out,decide_eq_false (by omega)];rfl,H2.out.drop⟩
  ·rcases (show n < -1073741824∨-1073741824≤n by omega) with c2|c2
   ·
    go_enter Tryz.func236,Tryz.ntmps236;go_upto_region 1 with fail;rw[←HB.out.1,←HB.out.2];go_wp2_with fail;refine HV.out.mono ?_;rintro e w2 ⟨rfl,h2⟩;obtain⟨k0,k1,-,-⟩:=kX h2;have H2:=ah h2;clear h2 HV;unfold Sr;go_wp2;go_ret;exact⟨by rw[HVV.out,decide_eq_true c1,decide_eq_false (by omega)];rfl,H2.out.drop⟩
   ·
    go_enter Tryz.func236,Tryz.ntmps236;go_upto_region 1 with fail;rw[←HB.out.1,←HB.out.2];go_wp2_with fail;refine HV.out.mono ?_;rintro e w2 ⟨rfl,h2⟩;obtain⟨k0,k1,-,-⟩:=kX h2;have H2:=ah h2;clear h2 HV;unfold Sr;go_wp2;go_ret;exact⟨by rw[HVV.out,decide_eq_true c1,decide_eq_true c2];rfl,H2.out.drop⟩
theorem b2_no {a b:Bool} (h:false=((!false&&!a)||(!false&&!b))):a=true∧b=true:=by cases a<;>cases b<;>simp at h ⊢
def Hw (x:Iv):Array Value:=#[.int .i64 x.ln,.int .i64 x.ld,.int .i64 x.hn,.int .i64 x.hd,.bool x.lo,.bool x.ho,.bool x.li,.bool x.hi]
theorem oq {r:Rt} (h:fD r=true):Rok r:=by
 unfold fD at h;simp only[Bool.and_eq_true] at h;exact (oV h.1).1
theorem Nk {W w:World} {A:aB} {g:Nat} {a b c d e f p q:Value} {t:TypeId} (h:Sat W w (sep (blk g (.cells #[a,b,c,d,e,f,p,q] t (0,0))) A)):
 w.cell? ⟨g,0,none⟩=some a∧w.cell? ⟨g,1,none⟩=some b∧w.cell? ⟨g,2,none⟩=some c∧w.cell? ⟨g,3,none⟩=some d∧w.cell? ⟨g,4,none⟩=some e∧w.cell? ⟨g,5,none⟩=some f∧w.cell? ⟨g,6,none⟩=some p∧w.cell? ⟨g,7,none⟩=some q:=
 ⟨h.cell 0,h.cell 1,h.cell 2,h.cell 3,h.cell 4,h.cell 5,h.cell 6,h.cell 7⟩
set_option maxRecDepth 100000 in
theorem Qx {W w:World} {A:aB} (x:Iv) (h:Sat W w A):
 Calls Tryz.prog 228 #[.agg (Hw x)] w fun e w'=>e=.returned (.bool (ig x))∧Sat W w' A:=by
 obtain⟨ln,ld,hn,hd,lo,ho,li,hi⟩:=x;have h1:=h.alloc (.cells #[.int .i64 ln,.int .i64 ld,.int .i64 hn,.int .i64 hd,.bool lo,.bool ho,.bool li,.bool hi] 159);obtain⟨B,hB⟩:=aC (w.heap.size);obtain⟨w1,hw1⟩:=aC (w.alloc (.cells #[.int .i64 ln,.int .i64 ld,.int .i64 hn,.int .i64 hd,.bool lo,.bool ho,.bool li,.bool hi] 159));rw[←hB,←hw1] at h1;have HB:=ah (aH hB hw1);have H1:=ah h1;obtain⟨ql,hql⟩:=aC (!(ln==0&&ld==0));obtain⟨qh,hqh⟩:=aC (!(hn==0&&hd==0));obtain⟨sl,hsl⟩:=aC (fD ⟨ln,ld⟩);obtain⟨sh,hsh⟩:=aC (fD ⟨hn,hd⟩);obtain⟨qe,hqe⟩:=aC ((ln==hn&&ld==hd));obtain⟨lt,hlt⟩:=aC (Qg ⟨ln,ld⟩ ⟨hn,hd⟩);have hr:ig ⟨ln,ld,hn,hd,lo,ho,li,hi⟩=if ((li&&(ql||lo))||(hi&&(qh||ho)))=true then false
  else if ((!li&&!sl)||(!hi&&!sh))=true then false else if (li||hi)=true then true else if qe=true then !lo&&!ho else lt:=by
  unfold ig zR eqR Iv.lw Iv.up;simp only;rw[←hql,←hqh,←hsl,←hsh,←hqe,←hlt]
 have hn1:∀w0,(binOp .neq 26 (.agg #[.int .i64 ln,.int .i64 ld]) (.agg #[.int .i64 0,.int .i64 0])).run Tryz.prog w0=.ok (.bool ql) w0:=fun w0=>by rw[JQ,hql]
 have hn2:∀w0,(binOp .neq 26 (.agg #[.int .i64 hn,.int .i64 hd]) (.agg #[.int .i64 0,.int .i64 0])).run Tryz.prog w0=.ok (.bool qh) w0:=fun w0=>by rw[JQ,hqh]
 have hn3:∀w0,(binOp .eql 26 (.agg #[.int .i64 ln,.int .i64 ld]) (.agg #[.int .i64 hn,.int .i64 hd])).run Tryz.prog w0=.ok (.bool qe) w0:=fun w0=>by rw[JO,hqe]
 have Ci:Hid (∀w' A',Sat W w' A'→Calls Tryz.prog 236 #[.agg #[.int .i64 ln,.int .i64 ld]] w' fun e w''=>e=.returned (.bool sl)∧Sat W w'' A'):=ah fun w' A' h'=>by rw[hsl];exact Bv ln ld h'
 have HS2:Hid (∀w' A',Sat W w' A'→Calls Tryz.prog 236 #[.agg #[.int .i64 hn,.int .i64 hd]] w' fun e w''=>e=.returned (.bool sh)∧Sat W w'' A'):=ah fun w' A' h'=>by rw[hsh];exact Bv hn hd h'
 have KF:Hid (sl=true→sh=true→∀w' A',Sat W w' A'→Calls Tryz.prog 165 #[.agg #[.int .i64 ln,.int .i64 ld],.agg #[.int .i64 hn,.int .i64 hd]] w' fun e w''=>e=.returned (.bool lt)∧Sat W w'' A'):=ah fun q1 q2 w' A' h'=>by
  rw[hlt];exact sQ ⟨ln,ld⟩ ⟨hn,hd⟩ (oq (by rw[←hsl];exact q1)) (oq (by rw[←hsh];exact q2)) h'
 obtain⟨gv,hgv⟩:=aC (ig ⟨ln,ld,hn,hd,lo,ho,li,hi⟩);rw[←hgv] at hr ⊢;have SN:=ah hr;clear hr hgv hql hqh hsl hsh hqe hlt h h1 hB hw1;unfold Hw;go_enter Tryz.func228,Tryz.ntmps228;go_upto_region 1 with fail;rw[←HB.out.1,←HB.out.2];go_cut [30] from 5 (fun v wx=>v=.bool ((li&&(ql||lo))||(hi&&(qh||ho)))∧wx=w1)
 case first=>
  as_aux_lemma=>
  obtain⟨k0,k1,k2,k3,k4,k5,k6,k7⟩:=Nk H1.out;cases li with
  | false=>
   cases hi with
   | false=>
    go_wp2;go_meet;case rel=>exact⟨rfl,rfl⟩
   | true=>
    cases qh with
    | true=>
     go_wp2;go_meet;case rel=>exact⟨rfl,rfl⟩
    | false=>
     cases ho
     all_goals
      go_wp2;go_meet;case rel=>exact⟨rfl,rfl⟩
  | true=>
   cases ql with
   | true=>
    go_wp2;go_meet;case rel=>exact⟨rfl,rfl⟩
   | false=>
    cases lo with
    | true=>
     go_wp2;go_meet;case rel=>exact⟨rfl,rfl⟩
    | false=>
     cases hi with
     | false=>
      go_wp2;go_meet;case rel=>exact⟨rfl,rfl⟩
     | true=>
      cases qh with
      | true=>
       go_wp2;go_meet;case rel=>exact⟨rfl,rfl⟩
      | false=>
       cases ho
       all_goals
        go_wp2;go_meet;case rel=>exact⟨rfl,rfl⟩
 case rest=>
  obtain⟨rfl,rfl⟩:=hcut;obtain⟨b1,hb1⟩:=aC (((li&&(ql||lo))||(hi&&(qh||ho))));rw[←hb1] at SN ⊢;clear hb1 HB;cases b1 with
  | true=>
   go_wp2;go_ret;exact⟨by rw[SN.out];rfl,H1.out.drop⟩
  | false=>
   obtain⟨k0,k1,k2,k3,k4,k5,k6,k7⟩:=Nk H1.out;go_wp2_with fail;refine (Ci.out _ _ H1.out).mono ?_;rintro e w2 ⟨rfl,h2⟩;clear k0 k1 k2 k3 k4 k5 k6 k7;obtain⟨k0,k1,k2,k3,k4,k5,k6,k7⟩:=Nk h2;have H2:=ah h2;clear h2 H1;go_wp2_with fail;refine (HS2.out _ _ H2.out).mono ?_;rintro e w3 ⟨rfl,h3⟩;clear k0 k1 k2 k3 k4 k5 k6 k7;have H3:=ah h3;clear h3 H2;go_upto_region 5 with fail;go_cut [52] from 5 (fun v wx=>v=.bool ((!li&&!sl)||(!hi&&!sh))∧wx=w3)
   case first=>
    as_aux_lemma=>
    obtain⟨k0,k1,k2,k3,k4,k5,k6,k7⟩:=Nk H3.out;cases li with
    | true=>
     cases hi with
     | true=>
      go_wp2;go_meet;case rel=>exact⟨rfl,rfl⟩
     | false=>
      cases sh
      all_goals
       go_wp2;go_meet;case rel=>exact⟨rfl,rfl⟩
    | false=>
     cases sl with
     | false=>
      go_wp2;go_meet;case rel=>exact⟨rfl,rfl⟩
     | true=>
      cases hi with
      | true=>
       go_wp2;go_meet;case rel=>exact⟨rfl,rfl⟩
      | false=>
       cases sh
       all_goals
        go_wp2;go_meet;case rel=>exact⟨rfl,rfl⟩
   case rest=>
    obtain⟨rfl,rfl⟩:=hcut;obtain⟨b2,hb2⟩:=aC (((!li&&!sl)||(!hi&&!sh)));rw[←hb2] at SN ⊢;have HB2:=ah hb2;clear hb2;cases b2 with
    | true=>
     go_wp2;go_ret;exact⟨by rw[SN.out];rfl,H3.out.drop⟩
    | false=>
     obtain⟨k0,k1,k2,k3,k4,k5,k6,k7⟩:=Nk H3.out;cases li with
     | true=>
      go_wp2;go_ret;exact⟨by rw[SN.out];rfl,H3.out.drop⟩
     | false=>
      cases hi with
      | true=>
       go_wp2;go_ret;exact⟨by rw[SN.out];rfl,H3.out.drop⟩
      | false=>
       have hs:sl=true∧sh=true:=b2_no HB2.out;obtain⟨rfl,rfl⟩:=hs;cases qe with
       | true=>
        cases lo<;>cases ho
        all_goals
         go_wp2;go_ret;exact⟨by rw[SN.out];rfl,H3.out.drop⟩
       | false=>
        go_wp2_with fail;refine (KF.out (by first|rfl|trivial) (by first|rfl|trivial) _ _ H3.out).mono ?_;rintro e w4 ⟨rfl,h4⟩;have H4:=ah h4;clear h4 k0 k1 k2 k3 k4 k5 k6 k7;go_wp2;go_ret;exact⟨by rw[SN.out];rfl,H4.out.drop⟩
set_option maxRecDepth 100000 in
theorem NT {W w:World} {A:aB} (x y:Iv) (gx:ig x=true) (gy:ig y=true) (h:Sat W w A):
 Calls Tryz.prog 229 #[.agg (Hw x),.agg (Hw y)] w fun e w'=>e=.returned (.bool (rX x y))∧Sat W w' A:=by
 have hx:x.hi=false→fD x.up=true:=fun e=>by
  unfold ig at gx;split at gx
  ·cases gx
  ·split at gx
   ·cases gx
   ·rename_i h2
    rw[e] at h2;cases hs:fD x.up
    ·rw[hs] at h2;simp at h2
    ·rfl
 have hy:y.li=false→fD y.lw=true:=fun e=>by
  unfold ig at gy;split at gy
  ·cases gy
  ·split at gy
   ·cases gy
   ·rename_i h2
    rw[e] at h2;cases hs:fD y.lw
    ·rw[hs] at h2;simp at h2
    ·rfl
 obtain⟨ln,ld,hn,hd,lo,ho,li,hi⟩:=x;obtain⟨WW,ld',hn',hd',lo',ho',X9,hi'⟩:=y;have h1:=(h.alloc (.cells #[.int .i64 ln,.int .i64 ld,.int .i64 hn,.int .i64 hd,.bool lo,.bool ho,.bool li,.bool hi] 159)).alloc (.cells #[.int .i64 WW,.int .i64 ld',.int .i64 hn',.int .i64 hd',.bool lo',.bool ho',.bool X9,.bool hi'] 159);rw[World.size_alloc] at h1;obtain⟨B,hB⟩:=aC (w.heap.size);obtain⟨w1,hw1⟩:=aC ((w.alloc (.cells #[.int .i64 ln,.int .i64 ld,.int .i64 hn,.int .i64 hd,.bool lo,.bool ho,.bool li,.bool hi] 159)).alloc (.cells #[.int .i64 WW,.int .i64 ld',.int .i64 hn',.int .i64 hd',.bool lo',.bool ho',.bool X9,.bool hi'] 159));rw[←hB,←hw1] at h1;have HB:=ah (aH hB hw1);have H1:=ah h1;obtain⟨qe,hqe⟩:=aC ((hn==WW&&hd==ld'));obtain⟨lt,hlt⟩:=aC (Qg ⟨hn,hd⟩ ⟨WW,ld'⟩);have hr:rX ⟨ln,ld,hn,hd,lo,ho,li,hi⟩ ⟨WW,ld',hn',hd',lo',ho',X9,hi'⟩=if (hi||X9)=true then false else if qe=true then ho&&lo' else lt:=by
  unfold rX eqR Iv.lw Iv.up;simp only;rw[←hqe,←hlt]
 have hn3:∀w0,(binOp .eql 26 (.agg #[.int .i64 hn,.int .i64 hd]) (.agg #[.int .i64 WW,.int .i64 ld'])).run Tryz.prog w0=.ok (.bool qe) w0:=fun w0=>by rw[JO,hqe]
 have KF:Hid (hi=false→X9=false→∀w' A',Sat W w' A'→Calls Tryz.prog 165 #[.agg #[.int .i64 hn,.int .i64 hd],.agg #[.int .i64 WW,.int .i64 ld']] w' fun e w''=>e=.returned (.bool lt)∧Sat W w'' A'):=ah fun q1 q2 w' A' h'=>by
  rw[hlt];exact sQ ⟨hn,hd⟩ ⟨WW,ld'⟩ (oq (hx q1)) (oq (hy q2)) h'
 obtain⟨gv,hgv⟩:=aC (rX ⟨ln,ld,hn,hd,lo,ho,li,hi⟩ ⟨WW,ld',hn',hd',lo',ho',X9,hi'⟩);rw[←hgv] at hr ⊢;have SN:=ah hr;clear hgv;obtain⟨k0,k1,k2,k3,k4,k5,k6,k7⟩:=Nk h1;obtain⟨j0,j1,j2,j3,j4,j5,j6,j7⟩:=Nk h1.p1;clear hr hqe hlt h h1 hB hw1 hx hy gx gy;unfold Hw;cases hi with
 | true=>
  go_enter Tryz.func229,Tryz.ntmps229;go_upto_region 1 with fail;rw[←HB.out.1,←HB.out.2];go_wp2;go_ret;exact⟨by rw[SN.out];rfl,H1.out.drop.drop⟩
 | false=>
  cases X9 with
  | true=>
   go_enter Tryz.func229,Tryz.ntmps229;go_upto_region 1 with fail;rw[←HB.out.1,←HB.out.2];go_wp2;go_ret;exact⟨by rw[SN.out];rfl,H1.out.drop.drop⟩
  | false=>
   cases qe with
   | true=>
    cases ho<;>cases lo'
    all_goals
     go_enter Tryz.func229,Tryz.ntmps229;go_upto_region 1 with fail;rw[←HB.out.1,←HB.out.2];go_wp2;go_ret;exact⟨by rw[SN.out];rfl,H1.out.drop.drop⟩
   | false=>
    go_enter Tryz.func229,Tryz.ntmps229;go_upto_region 1 with fail;rw[←HB.out.1,←HB.out.2];go_wp2_with fail;refine (KF.out (by first|rfl|trivial) (by first|rfl|trivial) _ _ H1.out).mono ?_;rintro e w4 ⟨rfl,h4⟩;have H4:=ah h4;clear h4 k0 k1 k2 k3 k4 k5 k6 k7 j0 j1 j2 j3 j4 j5 j6 j7;go_wp2;go_ret;exact⟨by rw[SN.out];rfl,H4.out.drop.drop⟩
end Go.Proofs.YthfmaclnccdcbaaGreatDoor

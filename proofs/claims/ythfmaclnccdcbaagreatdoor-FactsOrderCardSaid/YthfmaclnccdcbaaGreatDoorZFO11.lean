/- Part of a proof. -/
import Derived.Test.YthfmaclnccdcbaaGreatDoorZFO10
namespace Go.Proofs.YthfmaclnccdcbaaGreatDoor
open Go.RowKit PA
set_option maxRecDepth 100000
set_option maxHeartbeats 4000000
theorem JE {W:World} {I:Mem} (f:Fm):∀(w:World) (A:aB) (p q:Int) (x1:Option Addr) (n1 c1:Nat) (x2:Option Addr) (n2 c2:Nat),rF.rel I [.int .i64 p,.int .i64 q,.slice x1 n1 c1,.slice x2 n2 c2] f→f.size≤nN→Sat W w (sep (kn I) A) →
 Calls Tryz.prog 168 #[.agg #[.int .i64 p,.int .i64 q,.slice x1 n1 c1,.slice x2 n2 c2]] w fun e w'=>e=.returned (.int .i64 (f.deep:Nat))∧Sat W w' (sep (kn I) A):=by
 refine Fm.ind (P:=fun f=>∀(w:World) (A:aB) (p q:Int) (x1:Option Addr) (n1 c1:Nat) (x2:Option Addr) (n2 c2:Nat),rF.rel I [.int .i64 p,.int .i64 q,.slice x1 n1 c1,.slice x2 n2 c2] f→f.size≤nN→Sat W w (sep (kn I) A) →
  Calls Tryz.prog 168 #[.agg #[.int .i64 p,.int .i64 q,.slice x1 n1 c1,.slice x2 n2 c2]] w fun e w'=>e=.returned (.int .i64 (f.deep:Nat))∧Sat W w' (sep (kn I) A)) (fun o n i k ih=>?_) f
 intro w A p q x1 n1 c1 x2 n2 c2 hr hsz h;obtain⟨x1',c1',x2',c2',e,hi,hk⟩:=dW.1 hr;simp only[List.cons.injEq,Value.int.injEq,Value.slice.injEq,true_and,and_true] at e;obtain⟨rfl,rfl,⟨rfl,rfl,rfl⟩,⟨rfl,rfl,rfl⟩⟩:=e;have h1:=h.alloc (.cells #[.int .i64 p,.int .i64 q,.slice x1 i.length c1,.slice x2 k.length c2] 34);obtain⟨B,hB⟩:=aC (w.heap.size);obtain⟨w1,hw1⟩:=aC (w.alloc (.cells #[.int .i64 p,.int .i64 q,.slice x1 i.length c1,.slice x2 k.length c2] 34));rw[←hB,←hw1] at h1;have HB:=ah (aH hB hw1);have H1:=ah h1;obtain⟨nk,hnk⟩:=aC (k.length);obtain⟨ni,hni⟩:=aC (i.length);obtain⟨sz,hs⟩:=aC (Fm.sizes k);have hszz:(Fm.mk p q i k).size=sz+1:=by rw[hs,Fm.size]
 obtain⟨dk,hdk⟩:=aC (Fm.dK k);have hdd:(Fm.mk p q i k).deep=dk+1:=by rw[hdk,Fm.deep]
 have hdl:=Fm.LP k;have uP:=(aJ hk).2.2;rw[hszz] at hsz;rw[hdd];have HIH:=ah ih;rw[←hnk] at hk uP H1 ⊢;rw[←hni] at H1 ⊢;simp only[←hni,←hnk] at HB;have HK:=ah hk;have HN:=ah (aH hnk (aH hs hdk));have hdz:(dk:Int)≤1000000:=by unfold nN at hsz;omega
 have ML:sz≤1000000:=by unfold nN at hsz;omega
 have KI:=ah ML;have aaH:(sz:Int)≤1000000:=by omega
 clear hr hsz h hi hk h1 hB hw1 hnk hni hs hszz ih ML hdk hdd hdl aaH;go_enter Tryz.func168,Tryz.ntmps168;go_upto_region 1 with fail;rw[←HB.out.1,←HB.out.2];go_wp2_with fail;go_loopw [3,4] (fun sv iv wr=>∃(j s:Nat),sv=.int .i64 s∧iv=.int .i64 j∧j≤nk∧s≤dk∧Hid (s=Fm.dK (k.take j))∧Sat W wr (sep (blk B (.cells #[.int .i64 p,.int .i64 q,.slice x1 ni c1,.slice x2 nk c2] 34 (0,0))) (sep (kn I) A))) (fun _ iv _=>nk-(intOf iv).toNat)
 case atStart=>exact⟨0,0,rfl,rfl,by omega,by omega,ah (by simp[Fm.dK]),H1.out⟩
 case round=>
  obtain⟨j,s,rfl,rfl,hj,hsl,HS,hS⟩:=hrel;obtain⟨-,-,-,k3⟩:=lH hS;by_cases hlt:j<nk
  ·have hltz:(j:Int)<(nk:Int):=by omega
   obtain⟨g,hg⟩:∃g,k[j]?=some g:=⟨_,iM (by have:=HN.out.1;omega)⟩
   obtain⟨b,o,p',q',y1,m1,d1,y2,m2,d2,rfl,hgr,hcell⟩:=gY HK.out hg;have hmem:g∈k:=mZ hg;obtain⟨j0,j1,j2,j3⟩:=hcell wr hS.p1.ext;obtain⟨sg,hsg⟩:=aC (g.deep);have hgs:=Fm.lQ hmem;have htk:=Fm.DX k j hg;have htl:Fm.dK (k.take (j+1))≤dk:=by
    rw[HN.out.2.2];have key:∀(l:List Fm) (i:Nat),Fm.dK (l.take i)≤Fm.dK l:=by
     intro l
     induction l with
     | nil=>intro i;simp
     | cons g l ih=>
      intro i;cases i with
      | zero=>simp[Fm.dK]
      | succ i=>rw[List.take_succ_cons,Fm.dK,Fm.dK];have:=ih i;omega
    exact key _ _
   obtain⟨mx,hmx⟩:=aC (max s sg);have hb:mx≤dk:=by rw[hmx,HS.out,hsg,←htk];exact htl
   have emx:(if s<sg then (sg:Int) else (s:Int))=(mx:Int):=by split<;>omega
   have HMX:=ah emx;have hrec:=HIH.out g hmem wr (sep (blk B (.cells #[.int .i64 p,.int .i64 q,.slice x1 ni c1,.slice (some ⟨b,o,none⟩) nk c2] 34 (0,0))) A) p' q' y1 m1 d1 y2 m2 d2 hgr (by have:=KI.out;have:=HN.out.2.1;unfold nN;omega) hS.p1;rw[←hsg] at hrec;have HR:=ah hrec;have HT:Hid (mx=Fm.dK (k.take (j+1))):=ah (by rw[htk,hmx,HS.out,hsg]);have vw:=ah (aH hb hlt);clear hgr hcell hmem hsg hgs htk htl hrec hg hS hb hlt hj hsl H1 hmx emx;go_upto_region 5 with fail;go_wp2_with fail;refine HR.out.mono ?_;rintro e w2 ⟨rfl,h2⟩;have H2:=ah h2.p1;clear h2 HR j0 j1 j2 j3 k3;go_wp2;go_roundw;case rel=>exact⟨j+1,mx,(by first|exact congrArg (Value.int .i64) HMX.out|exact congrArg (Value.int .i64) (by have h:=HMX.out;split at h<;>omega)),by go_num,by have:=vw.out;omega,vw.out.1,HT,H2.out⟩
   case measure=>simp[intOf];have:=vw.out;omega
  ·obtain rfl:j=nk:=by omega
   have hss:s=dk:=by rw[HS.out,HN.out.2.2,List.take_of_length_le (by have:=HN.out.1;omega)]
   have HSS:=ah hss;have HF:=ah hS.drop;clear hS hss H1;go_wp2;go_ret;exact⟨by rw[HSS.out];rfl,HF.out⟩
theorem Tn (n:Nat):((n:Int)==0)=decide (n=0):=by rw[Bool.eq_iff_iff];simp
theorem Tq (n:Nat):((n:Int)==1)=decide (n=1):=by rw[Bool.eq_iff_iff];simp;omega
theorem EU {W w:World} {A:aB} {I:Mem} (f:Fm) (p q:Int) (x1:Option Addr) (n1 c1:Nat) (x2:Option Addr) (n2 c2:Nat) (hr:rF.rel I [.int .i64 p,.int .i64 q,.slice x1 n1 c1,.slice x2 n2 c2] f) (h:Sat W w (sep (kn I) A)):
 Calls Tryz.prog 199 #[.agg #[.int .i64 p,.int .i64 q,.slice x1 n1 c1,.slice x2 n2 c2]] w fun e w'=>e=.returned (.bool (f.formed rU))∧Sat W w' (sep (kn I) A):=by
 obtain⟨o,n,i,k⟩:=f;obtain⟨x1',c1',x2',c2',e,hi,hk⟩:=dW.1 hr;simp only[List.cons.injEq,Value.int.injEq,Value.slice.injEq,true_and,and_true] at e;obtain⟨rfl,rfl,⟨rfl,rfl,rfl⟩,⟨rfl,rfl,rfl⟩⟩:=e;have h1:=h.alloc (.cells #[.int .i64 p,.int .i64 q,.slice x1 i.length c1,.slice x2 k.length c2] 34);obtain⟨B,hB⟩:=aC (w.heap.size);obtain⟨w1,hw1⟩:=aC (w.alloc (.cells #[.int .i64 p,.int .i64 q,.slice x1 i.length c1,.slice x2 k.length c2] 34));rw[←hB,←hw1] at h1;obtain⟨k0,k1,k2,k3⟩:=lH h1;have HB:=ah (aH hB hw1);have H1:=ah h1;have IY:Hid (∀w' A',Sat W w' (sep (kn I) A')→Calls Tryz.prog 217 #[.slice x1 i.length c1] w' fun e w''=>e=.returned (.int .i64 (KO i))∧Sat W w'' (sep (kn I) A')):=ah fun w' A' h'=>N9 x1 c1 i hi h'
 obtain⟨rv,dQ⟩:=aC ((Fm.mk p q i k).formed rU);rw[←dQ];obtain⟨nk,hnk⟩:=aC (k.length);obtain⟨ni,hni⟩:=aC (i.length);obtain⟨sv,hsv⟩:=aC (KO i);have jW:rv=if (p≠2∧ni≠0)∨(p≠2∧p≠1∧q≠0) then false
  else if p=0 then decide (nk=0)
  else if p=1 then decide (nk=0)&&decide (0≤q)&&decide (q<64)
  else if p=2 then decide (nk=0)&&decide (0≤q)&&decide (q<32)&&decide (sv=0)
  else if p=3∨p=6 then decide (nk=1)
  else decide (p=4)||decide (p=5):=by
  have e1:(i≠[])↔ni≠0:=by rw[hni];cases i<;>simp
  have e2:k.isEmpty=decide (nk=0):=by rw[hnk];cases k<;>simp
  rw[dQ,Fm.formed,e2];unfold rU;rw[←hsv,←hnk];simp only[e1]
 have bU:=ah jW;rw[←hsv] at IY;rw[←hnk] at k3 H1 ⊢;rw[←hni] at k2 H1 IY ⊢;simp only[←hni,←hnk] at HB;have uP:=(aJ hk).2.2;have WA:=(aJ hi).2.2;rw[←hnk] at uP;rw[←hni] at WA;clear hr h hi hk h1 hB hw1 dQ jW hnk hni hsv;by_cases o2:p=2
 ·subst o2
  by_cases z0:nk=0
  ·subst z0
   by_cases z1:q<0
   ·as_aux_lemma=>
    go_enter Tryz.func199,Tryz.ntmps199;go_upto_region 1 with fail;rw[←HB.out.1,←HB.out.2];go_wp2;go_ret;exact⟨by rw[bU.out];simp;omega,H1.out.drop⟩
   ·by_cases z2:q<32
    ·as_aux_lemma=>
     have z1':0≤q:=by omega
     clear z1;go_enter Tryz.func199,Tryz.ntmps199;go_upto_region 1 with fail;rw[←HB.out.1,←HB.out.2];go_wp2_with fail;refine (IY.out _ _ H1.out.p1).mono ?_;rintro e w2 ⟨rfl,h2⟩;have H2:=ah h2.p1.drop;clear h2 IY k0 k1 k2 k3;go_wp2;go_ret;exact⟨by rw[bU.out];(simp[z1',z2]);(try rfl),H2.out⟩
    ·as_aux_lemma=>
     have z1':0≤q:=by omega
     have z2':32≤q:=by omega
     clear z1 z2;go_enter Tryz.func199,Tryz.ntmps199;go_upto_region 1 with fail;rw[←HB.out.1,←HB.out.2];go_wp2;go_ret;exact⟨by rw[bU.out];simp;omega,H1.out.drop⟩
  ·as_aux_lemma=>
   have z0':((nk:Int)==0)=false:=by simp;omega
   go_enter Tryz.func199,Tryz.ntmps199;go_upto_region 1 with fail;rw[←HB.out.1,←HB.out.2];go_wp2;go_ret;exact⟨by rw[bU.out];simp[z0],H1.out.drop⟩
 ·by_cases n0:ni=0
  ·subst n0
   by_cases o1:p=1
   ·subst o1
    by_cases z0:nk=0
    ·subst z0
     by_cases z1:q<0
     ·as_aux_lemma=>
      go_enter Tryz.func199,Tryz.ntmps199;go_upto_region 1 with fail;rw[←HB.out.1,←HB.out.2];go_wp2;go_ret;exact⟨by rw[bU.out];simp;omega,H1.out.drop⟩
     ·by_cases z2:q<64
      ·as_aux_lemma=>
       have z1':0≤q:=by omega
       clear z1;go_enter Tryz.func199,Tryz.ntmps199;go_upto_region 1 with fail;rw[←HB.out.1,←HB.out.2];go_wp2;go_ret;exact⟨by rw[bU.out];simp[z1',z2],H1.out.drop⟩
      ·as_aux_lemma=>
       have z1':0≤q:=by omega
       have z2':64≤q:=by omega
       clear z1 z2;go_enter Tryz.func199,Tryz.ntmps199;go_upto_region 1 with fail;rw[←HB.out.1,←HB.out.2];go_wp2;go_ret;exact⟨by rw[bU.out];simp;omega,H1.out.drop⟩
    ·as_aux_lemma=>
     have z0':((nk:Int)==0)=false:=by simp;omega
     go_enter Tryz.func199,Tryz.ntmps199;go_upto_region 1 with fail;rw[←HB.out.1,←HB.out.2];go_wp2;go_ret;exact⟨by rw[bU.out];simp[z0],H1.out.drop⟩
   ·by_cases q0:q=0
    ·subst q0
     by_cases p0:p=0
     ·as_aux_lemma=>
      subst p0;go_enter Tryz.func199,Tryz.ntmps199;go_upto_region 1 with fail;rw[←HB.out.1,←HB.out.2];go_wp2;go_ret;exact⟨by rw[bU.out];(try simp);(first|done|exact Tn _|exact Tq _),H1.out.drop⟩
     ·by_cases p3:p=3
      ·as_aux_lemma=>
       subst p3;go_enter Tryz.func199,Tryz.ntmps199;go_upto_region 1 with fail;rw[←HB.out.1,←HB.out.2];go_wp2;go_ret;exact⟨by rw[bU.out];(try simp);(first|done|exact Tn _|exact Tq _),H1.out.drop⟩
      ·by_cases p6:p=6
       ·as_aux_lemma=>
        subst p6;go_enter Tryz.func199,Tryz.ntmps199;go_upto_region 1 with fail;rw[←HB.out.1,←HB.out.2];go_wp2;go_ret;exact⟨by rw[bU.out];(try simp);(first|done|exact Tn _|exact Tq _),H1.out.drop⟩
       ·by_cases p4:p=4
        ·as_aux_lemma=>
         subst p4;go_enter Tryz.func199,Tryz.ntmps199;go_upto_region 1 with fail;rw[←HB.out.1,←HB.out.2];go_wp2;go_ret;exact⟨by rw[bU.out];simp,H1.out.drop⟩
        ·by_cases p5:p=5
         ·as_aux_lemma=>
          subst p5;go_enter Tryz.func199,Tryz.ntmps199;go_upto_region 1 with fail;rw[←HB.out.1,←HB.out.2];go_wp2;go_ret;exact⟨by rw[bU.out];simp,H1.out.drop⟩
         ·as_aux_lemma=>
          go_enter Tryz.func199,Tryz.ntmps199;go_upto_region 1 with fail;rw[←HB.out.1,←HB.out.2];go_wp2;go_ret;exact⟨by rw[bU.out];simp[o2,o1,p0,p3,p6,p4,p5],H1.out.drop⟩
    ·as_aux_lemma=>
     have q0':(p !=2&&p !=1&&q !=0)=true:=by simp[o2,o1,q0]
     have q1':(p !=2)=true:=by simpa using o2
     have q2':(p !=1)=true:=by simpa using o1
     have q3':(q !=0)=true:=by simpa using q0
     go_enter Tryz.func199,Tryz.ntmps199;go_upto_region 1 with fail;rw[←HB.out.1,←HB.out.2];go_wp2;go_ret;exact⟨by rw[bU.out];simp[o2,o1,q0],H1.out.drop⟩
  ·as_aux_lemma=>
   have n0':(0:Int)<(ni:Int):=by omega
   go_enter Tryz.func199,Tryz.ntmps199;go_upto_region 1 with fail;rw[←HB.out.1,←HB.out.2];go_wp2;go_ret;exact⟨by rw[bU.out];simp[o2,n0],H1.out.drop⟩
theorem Gz {W:World} {I:Mem} (f:Fm):∀(w:World) (A:aB) (p q:Int) (x1:Option Addr) (n1 c1:Nat) (x2:Option Addr) (n2 c2:Nat),rF.rel I [.int .i64 p,.int .i64 q,.slice x1 n1 c1,.slice x2 n2 c2] f→Sat W w (sep (kn I) A) →
 Calls Tryz.prog 169 #[.agg #[.int .i64 p,.int .i64 q,.slice x1 n1 c1,.slice x2 n2 c2]] w fun e w'=>e=.returned (.bool (f.whole rU))∧Sat W w' (sep (kn I) A):=by
 refine Fm.ind (P:=fun f=>∀(w:World) (A:aB) (p q:Int) (x1:Option Addr) (n1 c1:Nat) (x2:Option Addr) (n2 c2:Nat),rF.rel I [.int .i64 p,.int .i64 q,.slice x1 n1 c1,.slice x2 n2 c2] f→Sat W w (sep (kn I) A) →
  Calls Tryz.prog 169 #[.agg #[.int .i64 p,.int .i64 q,.slice x1 n1 c1,.slice x2 n2 c2]] w fun e w'=>e=.returned (.bool (f.whole rU))∧Sat W w' (sep (kn I) A)) (fun o n i k ih=>?_) f
 intro w A p q x1 n1 c1 x2 n2 c2 hr h;obtain⟨x1',c1',x2',c2',e,hi,hk⟩:=dW.1 hr;simp only[List.cons.injEq,Value.int.injEq,Value.slice.injEq,true_and,and_true] at e;obtain⟨rfl,rfl,⟨rfl,rfl,rfl⟩,⟨rfl,rfl,rfl⟩⟩:=e;have h1:=h.alloc (.cells #[.int .i64 p,.int .i64 q,.slice x1 i.length c1,.slice x2 k.length c2] 34);obtain⟨B,hB⟩:=aC (w.heap.size);obtain⟨w1,hw1⟩:=aC (w.alloc (.cells #[.int .i64 p,.int .i64 q,.slice x1 i.length c1,.slice x2 k.length c2] 34));rw[←hB,←hw1] at h1;have HB:=ah (aH hB hw1);have H1:=ah h1;obtain⟨nk,hnk⟩:=aC (k.length);obtain⟨ni,hni⟩:=aC (i.length);obtain⟨rv,dQ⟩:=aC ((Fm.mk p q i k).whole rU);obtain⟨fv,hfv⟩:=aC ((Fm.mk p q i k).formed rU);have jW:rv=(fv&&Fm.dN rU k):=by rw[dQ,Fm.whole,hfv]
 have bU:=ah jW;have uP:=(aJ hk).2.2;have HIH:=ah ih;have hfo:=EU (Fm.mk p q i k) p q x1 i.length c1 x2 k.length c2 hr h1.p1;rw[←hfv] at hfo;rw[←dQ];rw[←hnk] at hk uP H1 hfo ⊢;rw[←hni] at H1 hfo ⊢;simp only[←hni,←hnk] at HB;have Z9:=ah hfo;have HK:=ah hk;have HN:=ah hnk;obtain⟨k0,k1,k2,k3⟩:=lH H1.out;clear hr h hi hk h1 hB hw1 hnk hni ih dQ jW hfv hfo;cases fv with
 | false=>
  go_enter Tryz.func169,Tryz.ntmps169;go_upto_region 1 with fail;rw[←HB.out.1,←HB.out.2];go_wp2_with fail;refine Z9.out.mono ?_;rintro e w2 ⟨rfl,h2⟩;have H2:=ah h2.p1.drop;clear h2 Z9 k0 k1 k2 k3;go_wp2;go_ret;exact⟨by rw[bU.out];rfl,H2.out⟩
 | true=>
  go_enter Tryz.func169,Tryz.ntmps169;go_upto_region 1 with fail;rw[←HB.out.1,←HB.out.2];go_wp2_with fail;refine Z9.out.mono ?_;rintro e w2 ⟨rfl,h2⟩;have H2:=ah h2.p1;clear h2 Z9 k0 k1 k2 k3;go_wp2_with fail;go_loopw [3] (fun iv wr=>∃(j:Nat),iv=.int .i64 j∧j≤nk∧Hid (Fm.dN rU (k.take j)=true)∧Sat W wr (sep (blk B (.cells #[.int .i64 p,.int .i64 q,.slice x1 ni c1,.slice x2 nk c2] 34 (0,0))) (sep (kn I) A))) (fun iv _=>nk-(intOf iv).toNat)
  case atStart=>exact⟨0,rfl,by omega,ah (by simp[Fm.dN]),H2.out⟩
  case round=>
   obtain⟨j,rfl,hj,HS,hS⟩:=hrel;obtain⟨-,-,-,k3⟩:=lH hS;by_cases hlt:j<nk
   ·have hltz:(j:Int)<(nk:Int):=by omega
    obtain⟨g,hg⟩:∃g,k[j]?=some g:=⟨_,iM (by have:=HN.out;omega)⟩
    obtain⟨b,o,p',q',y1,m1,d1,y2,m2,d2,rfl,hgr,hcell⟩:=gY HK.out hg;have hmem:g∈k:=mZ hg;obtain⟨j0,j1,j2,j3⟩:=hcell wr hS.p1.ext;obtain⟨wg,hwg⟩:=aC (g.whole rU);have htk:=Fm.OC rU k j hg;have hrec:=HIH.out g hmem wr (sep (blk B (.cells #[.int .i64 p,.int .i64 q,.slice x1 ni c1,.slice (some ⟨b,o,none⟩) nk c2] 34 (0,0))) A) p' q' y1 m1 d1 y2 m2 d2 hgr hS.p1;rw[←hwg] at hrec;have HR:=ah hrec;have HT:Hid (Fm.dN rU (k.take (j+1))=wg):=ah (by rw[htk,HS.out,hwg];rfl);have HWB:Hid ((wg||!(Fm.dN rU k))=true):=ah (by
     cases hw:wg with
     | true=>rfl
     | false=>rw[Fm.QM rU hmem (by rw[←hwg];exact hw)];rfl)
    have vw:=ah hlt;clear hgr hcell hmem hwg htk hrec hg hS hlt hj H1 H2;go_upto_region 6 with fail;go_wp2_with fail;refine HR.out.mono ?_;rintro e w2 ⟨rfl,h2⟩;have H2:=ah h2.p1;clear h2 HR j0 j1 j2 j3 k3;cases wg with
    | true=>
     go_wp2;go_roundw;case rel=>exact⟨j+1,by go_num,by have:=vw.out;omega,HT,H2.out⟩
     case measure=>simp[intOf];have:=vw.out;omega
    | false=>
     have HF:=ah H2.out.drop;clear H2;go_wp2;go_ret;exact⟨by rw[bU.out,show Fm.dN rU k=false by simpa using HWB.out];rfl,HF.out⟩
   ·obtain rfl:j=nk:=by omega
    have hss:Fm.dN rU k=true:=by have:=HS.out;rwa [List.take_of_length_le (by have:=HN.out;omega)] at this
    have HSS:=ah hss;have HF:=ah hS.drop;clear hS hss H1 H2;go_wp2;go_ret;exact⟨by rw[bU.out,HSS.out];rfl,HF.out⟩
theorem jR {W w:World} {A:aB} {I:Mem} (f:Fm) (p q:Int) (x1:Option Addr) (n1 c1:Nat) (x2:Option Addr) (n2 c2:Nat) (hr:rF.rel I [.int .i64 p,.int .i64 q,.slice x1 n1 c1,.slice x2 n2 c2] f) (hsz:f.size≤nN) (h:Sat W w (sep (kn I) A)):
 Calls Tryz.prog 123 #[.agg #[.int .i64 p,.int .i64 q,.slice x1 n1 c1,.slice x2 n2 c2]] w fun e w'=>e=.returned (.int .i64 (kQ f))∧Sat W w' (sep (kn I) A):=by
 have h1:=h.alloc (.cells #[.int .i64 p,.int .i64 q,.slice x1 n1 c1,.slice x2 n2 c2] 34);obtain⟨B,hB⟩:=aC (w.heap.size);obtain⟨w1,hw1⟩:=aC (w.alloc (.cells #[.int .i64 p,.int .i64 q,.slice x1 n1 c1,.slice x2 n2 c2] 34));rw[←hB,←hw1] at h1;obtain⟨k0,k1,k2,k3⟩:=lH h1;have HB:=ah (aH hB hw1);have H1:=ah h1;obtain⟨sz,hs⟩:=aC (f.size);obtain⟨dp,hdp⟩:=aC (f.deep);obtain⟨wh,hwh⟩:=aC (f.whole rU);obtain⟨rv,dQ⟩:=aC (kQ f);have jW:rv=if 96<sz∨8<dp then 4 else if wh=true then 0 else 1:=by rw[dQ,hs,hdp,hwh];rfl
 have bU:=ah jW;have HA:Hid (∀w' A',Sat W w' (sep (kn I) A')→Calls Tryz.prog 167 #[.agg #[.int .i64 p,.int .i64 q,.slice x1 n1 c1,.slice x2 n2 c2]] w' fun e w''=>e=.returned (.int .i64 (sz:Nat))∧Sat W w'' (sep (kn I) A')):=ah fun w' A' h'=>by rw[hs];exact JF f w' A' p q x1 n1 c1 x2 n2 c2 hr hsz h'
 have HD:Hid (∀w' A',Sat W w' (sep (kn I) A')→Calls Tryz.prog 168 #[.agg #[.int .i64 p,.int .i64 q,.slice x1 n1 c1,.slice x2 n2 c2]] w' fun e w''=>e=.returned (.int .i64 (dp:Nat))∧Sat W w'' (sep (kn I) A')):=ah fun w' A' h'=>by rw[hdp];exact JE f w' A' p q x1 n1 c1 x2 n2 c2 hr hsz h'
 have U9:Hid (∀w' A',Sat W w' (sep (kn I) A')→Calls Tryz.prog 169 #[.agg #[.int .i64 p,.int .i64 q,.slice x1 n1 c1,.slice x2 n2 c2]] w' fun e w''=>e=.returned (.bool wh)∧Sat W w'' (sep (kn I) A')):=ah fun w' A' h'=>by rw[hwh];exact Gz f w' A' p q x1 n1 c1 x2 n2 c2 hr h'
 rw[←dQ];clear hr hsz h h1 hB hw1 hs hdp hwh dQ jW;by_cases z1:96<sz
 ·have z1':(96:Int)<(sz:Int):=by omega
  have HV:Hid (rv=4):=ah (by rw[bU.out,if_pos (.inl z1)]);clear z1;go_enter Tryz.func123,Tryz.ntmps123;go_upto_region 1 with fail;rw[←HB.out.1,←HB.out.2];go_wp2_with fail;refine (HA.out _ _ H1.out.p1).mono ?_;rintro e w2 ⟨rfl,h2⟩;have H2:=ah h2.p1.drop;clear h2 HA k0 k1 k2 k3;go_wp2;go_ret;exact⟨by rw[HV.out];rfl,H2.out⟩
 ·have z1':¬(96:Int)<(sz:Int):=by omega
  by_cases z2:8<dp
  ·have z2':(8:Int)<(dp:Int):=by omega
   have HV:Hid (rv=4):=ah (by rw[bU.out,if_pos (.inr z2)]);clear z1 z2;go_enter Tryz.func123,Tryz.ntmps123;go_upto_region 1 with fail;rw[←HB.out.1,←HB.out.2];go_wp2_with fail;refine (HA.out _ _ H1.out.p1).mono ?_;rintro e w2 ⟨rfl,h2⟩;have H2:=ah h2.p1;clear h2 HA k0 k1 k2 k3;obtain⟨k0,k1,k2,k3⟩:=lH H2.out;go_wp2_with fail;refine (HD.out _ _ H2.out.p1).mono ?_;rintro e w3 ⟨rfl,h3⟩;have H3:=ah h3.p1.drop;clear h3 HD k0 k1 k2 k3 H2;go_wp2;go_ret;exact⟨by rw[HV.out];rfl,H3.out⟩
  ·have z2':¬(8:Int)<(dp:Int):=by omega
   have HV:Hid (rv=if wh=true then 0 else 1):=ah (by rw[bU.out,if_neg (by omega)]);clear z1 z2;go_enter Tryz.func123,Tryz.ntmps123;go_upto_region 1 with fail;rw[←HB.out.1,←HB.out.2];go_wp2_with fail;refine (HA.out _ _ H1.out.p1).mono ?_;rintro e w2 ⟨rfl,h2⟩;have H2:=ah h2.p1;clear h2 HA k0 k1 k2 k3;obtain⟨k0,k1,k2,k3⟩:=lH H2.out;go_wp2_with fail;refine (HD.out _ _ H2.out.p1).mono ?_;rintro e w3 ⟨rfl,h3⟩;have H3:=ah h3.p1;clear h3 HD k0 k1 k2 k3 H2;obtain⟨k0,k1,k2,k3⟩:=lH H3.out;go_wp2_with fail;refine (U9.out _ _ H3.out.p1).mono ?_;rintro e w4 ⟨rfl,h4⟩;have H4:=ah h4.p1.drop;clear h4 U9 k0 k1 k2 k3 H3;cases wh with
   | true=>
    go_wp2;go_ret;exact⟨by rw[HV.out];rfl,H4.out⟩
   | false=>
    go_wp2;go_ret;exact⟨by rw[HV.out];rfl,H4.out⟩
end Go.Proofs.YthfmaclnccdcbaaGreatDoor

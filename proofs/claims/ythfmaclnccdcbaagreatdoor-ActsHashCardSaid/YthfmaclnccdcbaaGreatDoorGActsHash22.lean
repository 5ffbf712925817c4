/- Part of a proof. -/
import Derived.Test.YthfmaclnccdcbaaGreatDoorGActsHash21
import Derived.Test.YthfmaclnccdcbaaGreatDoorGActsHash20
import Derived.Test.YthfmaclnccdcbaaGreatDoorGActsHash30
namespace PA
open Go Go.RowKit
theorem FN {l:List Fm} {j:Nat} {f:Fm} (h:l[j]?=some f):kP (l.drop j)=if jY f≠0 then jY f else kP (l.drop (j+1)):=by
 obtain⟨hj,rfl⟩:=List.getElem?_eq_some_iff.1 h;rw[List.drop_eq_getElem_cons hj,kP]
theorem yD {l:List Cl} {k:Nat} (h:fK l k=none):∀n,k<n→jI l n=none
 | 0,h0=>absurd h0 (Nat.not_lt_zero _)
 | n+1,h0=>by
  unfold jI;rcases Nat.lt_succ_iff_lt_or_eq.1 h0 with h1|rfl
  ·rw[yD h n h1]
  ·rw[h];cases jI l k<;>rfl
theorem BG {l:List Cl} {n s:Nat} {y:List Fm} (h1:jI l n=some s) (h2:fK l n=some y):jI l (n+1)=some (s+y.length):=by
 unfold jI;rw[h1,h2]
end PA
namespace Go.Proofs.YthfmaclnccdcbaaGreatDoor
open Go.RowKit PA
set_option maxHeartbeats 1000000 in
theorem OH {W w:World} {A:aA} {I:Mem} (a:Option Addr) (n c:Nat) (l:List Cl) (hv:(kK.slice 5).rel I [.slice a n c] l) (hok:pR l=0) (hB:∀x∈l,x.body.size≤mG) (k:Nat) (hk:k<l.length) (h:Sat W w (sep (kn I) A)):
 Calls Tryz.prog 204 #[.slice a n c,.int .i64 (k:Nat)] w fun e w'=>∃(b:Option Addr) (m d:Nat) (J:Mem),e=.returned (.tuple #[.slice b m d,.int .i64 (if (fK l k).isSome=true then 0 else 4)])∧Mem.le I J∧(∀y,fK l k=some y→m=y.length∧(rF.slice 4).rel J [.slice b m d] y)∧Sat W w' (sep (kn J) A):=by
 have hn:=(aI hv).1;have hn63:=(aI hv).2.2;have hvs:∀w' A',Sat W w' (sep (kn I) A')→Calls Tryz.prog 140 #[.slice a n c] w' fun e w''=>e=.returned (.int .i64 0)∧Sat W w'' (sep (kn I) A'):=fun w' A' h'=>by
  have:=kW a n c l hv hB h';rw[hok] at this;exact this
 have hcs:∀w' A',Sat W w' (sep (kn I) A')→Calls Tryz.prog 220 #[.slice a n c,.int .i64 (k:Nat)] w' fun e w''=>e=.returned (.int .i64 0)∧Sat W w'' (sep (kn I) A'):=fun w' A' h'=>by
  have HV:=ah (hvs w' A' h');have hkz:(k:Int)<(n:Int):=by omega
  have hk0:¬(k:Int)<0:=by omega
  clear hvs h' hv hB hok hn hk
  go_enter Tryz.func220,Tryz.ntmps220
  go_wp2_with fail
  refine HV.out.mono ?_;rintro e w2 ⟨rfl,h2⟩;have H2:=ah h2;clear h2 HV
  go_wp2
  go_ret
  exact⟨rfl,H2.out⟩
 have nH:=ah (hcs w A h);have rY:=ah (fun w' (h':Sat W w' (sep (kn I) A))=>IB a n c l hv hok k hk w' A I (Mem.le_refl _) h');obtain⟨av,hav⟩:=ay (fK l k);rw[←hav] at rY ⊢;obtain⟨Po,dR⟩:∃P:Ending→World→Prop,P=fun e w'=>∃(b:Option Addr) (m d:Nat) (J:Mem),e=.returned (.tuple #[.slice b m d,.int .i64 (if av.isSome=true then 0 else 4)])∧Mem.le I J∧(∀y,av=some y→m=y.length∧(rF.slice 4).rel J [.slice b m d] y)∧Sat W w' (sep (kn J) A):=⟨_,rfl⟩
 rw[←dR];have bK:=ah dR;clear hvs hcs h hv hB hok hn hk hav dR
 go_enter Tryz.func204,Tryz.ntmps204
 go_wp2_with fail
 refine nH.out.mono ?_;rintro e w2 ⟨rfl,h2⟩;have H2:=ah h2;clear h2 nH
 go_wp2_with fail
 refine (rY.out _ H2.out).mono ?_;rintro e w3 ⟨b,m,d,J,rfl,hle,hres,h3⟩;have H3:=ah (And.intro hle (And.intro hres h3));clear hle hres h3 H2 rY;cases av with
 | none=>
  go_wp2
  rw[bK.out];exact⟨none,0,0,J,rfl,H3.out.1,fun y hy=>(by cases hy),H3.out.2.2⟩
 | some y=>
  go_wp2
  rw[bK.out];exact⟨b,m,d,J,rfl,H3.out.1,H3.out.2.1,H3.out.2.2⟩
set_option maxRecDepth 100000 in
set_option maxHeartbeats 8000000 in
theorem xW {W w:World} {A:aA} {I:Mem} (ta:Option Addr) (tn tc:Nat) (ca:Option Addr) (cn cc:Nat) (td:List Fm) (cl:List Cl) (ht:(rF.slice 4).rel I [.slice ta tn tc] td) (hc:(kK.slice 5).rel I [.slice ca cn cc] cl) (hT:∀f∈td,f.size≤mG) (hB:∀x∈cl,x.body.size≤mG) (h:Sat W w (sep (kn I) A)):
 Calls Tryz.prog 177 #[.agg #[.slice ta tn tc,.slice ca cn cc]] w fun e w'=>∃v J,e=.returned (.tuple #[v,.int .i64 (Es td cl)])∧Mem.le I J∧Sat W w' (sep (kn J) A):=by
 have htn:=(aI ht).1;have ZM:=(aI ht).2.2;have hcn:=(aI hc).1;have hc63:=(aI hc).2.2;have h1:=h.alloc (.cells #[.slice ta tn tc,.slice ca cn cc] 30);obtain⟨B,hBb⟩:=ay (w.heap.size);obtain⟨w1,hw1⟩:=ay (w.alloc (.cells #[.slice ta tn tc,.slice ca cn cc] 30));rw[←hBb,←hw1] at h1;have HB:=ah (And.intro hBb hw1);have H1:=ah h1;obtain⟨k0,k1,-,-⟩:=kG h1;obtain⟨rv,dI⟩:=ay (Es td cl);rw[←dI];obtain⟨Po,dR⟩:∃P:Ending→World→Prop,P=fun e w'=>∃v J,e=.returned (.tuple #[v,.int .i64 rv])∧Mem.le I J∧Sat W w' (sep (kn J) A):=⟨_,rfl⟩
 rw[←dR];have bK:=ah dR;clear dR;have bJ:Hid (rv=if 16<tn then 4 else if kP td≠0 then kP td else if pR cl≠0 then pR cl else match jI cl cl.length with|none=>4|some s=>if 128<(Fm.aW td).length+s then 4 else 0):=ah (by rw[dI,htn];rfl);have HX:=ah (And.intro ht (And.intro hc (And.intro htn hcn)));have HXB:=ah (And.intro hT hB);clear ht hc hT hB h htn hcn h1 hBb hw1 dI
 by_cases Vu:16<tn
 ·have Vw:(16:Int)<(tn:Int):=by omega
  have HF:Hid (rv=4):=ah (by rw[bJ.out,if_pos Vu]);clear Vu
  go_enter Tryz.func177,Tryz.ntmps177
  go_upto_region 1 with (fail)
  rw[←HB.out.1,←HB.out.2]
  go_wp2
  rw[bK.out];exact⟨_,I,by rw[HF.out];rfl,Mem.le_refl _,H1.out.drop⟩
 ·have Vw:¬(16:Int)<(tn:Int):=by omega
  have HR1:Hid (rv=if kP td≠0 then kP td else if pR cl≠0 then pR cl else match jI cl cl.length with|none=>4|some s=>if 128<(Fm.aW td).length+s then 4 else 0):=ah (by rw[bJ.out,if_neg Vu]);have aaO:=ah Vu;have abO:(tn:Int)≤16:=by omega
  clear Vu bJ
  go_enter Tryz.func177,Tryz.ntmps177
  go_upto_region 1 with (fail)
  rw[←HB.out.1,←HB.out.2]
  go_upto_region 4 with (fail)
  clear k0 k1 Vw
  go_wp2_with fail
  go_loopw [4,5] (fun ov iv wr=>∃(j m d:Nat) (bO:Option Addr) (vs:List Value) (J:Mem),ov=.slice bO m d∧iv=.int .i64 j∧j≤tn∧m≤j*96∧Hid (m=(Fm.aW (td.take j)).length∧Mem.le I J∧(rF.rows 4).rel J vs (Fm.aW (td.take j))∧kP td=kP (td.drop j))∧Sat W wr (sep (aT 34 4 bO m d vs) (sep (kn J) (sep (blk B (.cells #[.slice ta tn tc,.slice ca cn cc] 30 (0,0))) A)))) (fun _ iv _=>tn-(intOf iv).toNat)
  case atStart=>exact⟨0,0,0,none,[],I,rfl,rfl,by omega,by omega,ah ⟨rfl,Mem.le_refl _,kR _ _ _,rfl⟩,(H1.out.p1).fM 34 4⟩
  case round=>
   obtain⟨j,m,d,bO,vs,J,rfl,rfl,hj,hm,HV,hS⟩:=hrel;obtain⟨k0,k1,-,-⟩:=kG hS.p2
   by_cases hlt:j<tn
   ·as_aux_lemma=>
    have hltz:(j:Int)<(tn:Int):=by omega
    obtain⟨f,hf⟩:∃f,td[j]?=some f:=⟨_,List.getElem?_eq_getElem (by have:=HX.out.2.2.1;omega)⟩
    obtain⟨b,o,p,q,x1,n1,c1,x2,n2,c2,rfl,hrf,hcell⟩:=gU HX.out.1 hf;have Ey:=ah (fun w' (he:Ext J w')=>hcell w' (fun i o hb=>he i o (HV.out.2.1 i o hb)));obtain⟨j0,j1,j2,j3⟩:=Ey.out wr hS.p1.ext;have hfs:=HXB.out.1 f (List.mem_of_getElem? hf);have vg:=ah (jD f p q x1 n1 c1 x2 n2 c2 (rF.mono HV.out.2.1 hrf) hfs hS.p1);have HPT:=ah (fun w' A' (h':Sat W w' (sep (kn J) A'))=>E8 f w' A' J p q x1 n1 c1 x2 n2 c2 (rF.mono HV.out.2.1 hrf) hfs h');obtain⟨fe,hfe⟩:=ay (jY f);have hdr:=HV.out.2.2.2.trans (FN hf);rw[←hfe] at vg hdr;have HDR:=ah hdr;have XL:=ah (And.intro hf (And.intro hfe (And.intro hlt hm)));have abH:(m:Int)≤1536:=by omega
    clear hrf hcell hfs hfe hdr hf hlt hj hm hS H1
    go_upto_region 7 with (fail)
    go_wp2_with fail
    refine vg.out.mono ?_;rintro e w2 ⟨rfl,h2⟩;clear j0 j1 j2 j3 k0 k1 vg;have H2:=ah (show Sat W w2 (sep (aT 34 4 bO m d vs) (sep (kn J) (sep (blk B (.cells #[.slice (some ⟨b,o,none⟩) tn tc,.slice ca cn cc] 30 (0,0))) A))) from h2.p1);clear h2
    by_cases he0:fe=0
    ·subst he0
     obtain⟨k0,k1,-,-⟩:=kG H2.out.p2;obtain⟨j0,j1,j2,j3⟩:=Ey.out w2 H2.out.p1.ext;have Y1:Hid (kP td=kP (td.drop (j+1))):=ah (by rw[HDR.out];simp);have hsf:=lg XL.out.2.1.symm;have htl:=Fm.yg f;have HTL:Hid (f.dL.length≤96):=ah (by omega);clear hsf htl HDR
     go_upto_region 10 with (fail)
     go_wp2_with fail
     refine (HPT.out _ _ H2.out.p1).mono ?_;rintro e w3 ⟨a3,n3,c3,J3,rfl,hn3,hle3,hr3,h3⟩;obtain⟨us,yx,hu0,hu1,hur,jB⟩:=kU hr3;have HU:=ah (And.intro yx (And.intro hu0 (And.intro hu1 (And.intro hur (jB w3 h3.ext)))));have HN:=ah (And.intro hn3 hle3);have H3:=ah (show Sat W w3 (sep (aT 34 4 bO m d vs) (sep (kn J3) (sep (blk B (.cells #[.slice (some ⟨b,o,none⟩) tn tc,.slice ca cn cc] 30 (0,0))) A))) from h3.p1);have hmn:m+n3≤1632:=by have:=HTL.out;omega
     have RZ:=ah hmn;clear h3 yx hu0 hu1 hur jB hn3 hle3 hr3 HPT j0 j1 j2 j3 k0 k1 H2 hmn
     go_wp2_with (at_builtin;go_loud (refine aH rfl _ _ 27 rfl 34 4 64 _ Tryz.underlying27 iF rfl rfl H3.out rfl us HU.out.1 HU.out.2.1 HU.out.2.2.2.2 HU.out.2.2.1 (by have:=RZ.out;omega) (by unfold maxLen;have:=RZ.out;omega) ?_))
     intro a4 c4 w4 h4;have H4:=ah h4;clear h4 H3
     go_wp2
     go_roundw
     case rel=>
      have htk:=Fm.yh td j XL.out.1;refine⟨j+1,m+n3,c4,a4,vs++us,J3,rfl,by go_num,by have:=XL.out.2.2.1;omega,by have:=XL.out.2.2.2;have:=HTL.out;have:=HN.out.1;rw[Nat.add_mul];omega,ah ⟨by rw[htk,dD,←HV.out.1,←HN.out.1],eH HV.out.2.1 HN.out.2,by rw[htk];exact gB ((rF.rows 4).mono HN.out.2 HV.out.2.2.1) HU.out.2.2.2.1,Y1.out⟩,H4.out⟩
     case measure=>simp[intOf];have:=XL.out.2.2.1;omega
    ·have he1:(fe !=0)=true:=by simpa using he0
     have he2:(fe==0)=false:=by simpa using he0
     have HF:Hid (rv=fe):=ah (by rw[HR1.out,HDR.out];simp[he0]);have HF2:=ah (H2.out.dU.p1.drop);clear he0 H2
     go_wp2
     rw[bK.out];exact⟨_,J,by rw[HF.out];rfl,HV.out.2.1,HF2.out⟩
   ·obtain rfl:j=tn:=by omega
    as_aux_lemma=>
    obtain⟨hv1,hv2,hv3,hv4⟩:=HV.out;rw[List.drop_of_length_le (by have:=HX.out.2.2.1;omega)] at hv4;rw[List.take_of_length_le (by have:=HX.out.2.2.1;omega)] at hv1 hv3;have HR2:Hid (rv=if pR cl≠0 then pR cl else match jI cl cl.length with|none=>4|some s=>if 128<(Fm.aW td).length+s then 4 else 0):=ah (by rw[HR1.out,hv4];rfl);have oI:=ah (And.intro hv1 (And.intro hv2 hv3));have hcJ:=(kK.slice 5).mono hv2 HX.out.2.1;have Zh:=ah (kW ca cn cc cl hcJ HXB.out.2 hS.p1);obtain⟨ce,hce⟩:=ay (pR cl);rw[←hce] at Zh;have Ey:=ah hce;have hmB:(m:Int)≤1536:=by omega
    have RY:=ah hm;clear hv1 hv2 hv3 hv4 hcJ hce hS hj hlt hm HR1 H1
    go_upto_region 11 with (fail)
    go_wp2_with fail
    refine Zh.out.mono ?_;rintro e w2 ⟨rfl,h2⟩;clear k0 k1 Zh;have H2:=ah (show Sat W w2 (sep (aT 34 4 bO m d vs) (sep (kn J) (sep (blk B (.cells #[.slice ta j tc,.slice ca cn cc] 30 (0,0))) A))) from h2.p1);clear h2
    by_cases he0:ce=0
    ·subst he0
     have HR3:Hid (rv=match jI cl cl.length with|none=>4|some s=>if 128<(Fm.aW td).length+s then 4 else 0):=ah (by rw[HR2.out,←Ey.out];rfl);have hc32:=(sO Ey.out.symm).1;have adB:(cn:Int)≤32:=by have:=HX.out.2.2.2;omega
     clear hc32 HR2
     go_upto_region 14 with (fail)
     go_wp2_with fail
     go_loopw [4,8] (fun ov iv wr=>∃(i m2 d2 s:Nat) (b2:Option Addr) (vs2:List Value) (J2:Mem),ov=.slice b2 m2 d2∧iv=.int .i64 i∧i≤cn∧m2≤1536+i*64∧Hid (jI cl i=some s∧m2=m+s∧Mem.le J J2)∧Sat W wr (sep (aT 34 4 b2 m2 d2 vs2) (sep (kn J2) (sep (blk B (.cells #[.slice ta j tc,.slice ca cn cc] 30 (0,0))) A)))) (fun _ iv _=>cn-(intOf iv).toNat)
     case atStart=>exact⟨0,m,d,0,bO,vs,J,rfl,rfl,by omega,by have:=RY.out;omega,ah ⟨rfl,rfl,Mem.le_refl _⟩,H2.out⟩
     case round=>
      obtain⟨i,m2,d2,s,b2,vs2,J2,rfl,rfl,hi,hm2,rM,hS2⟩:=hrel;obtain⟨k0,k1,-,-⟩:=kG hS2.p2
      by_cases hlt2:i<cn
      ·have Uh:(i:Int)<(cn:Int):=by omega
       have rY:=ah (OH ca cn cc cl ((kK.slice 5).mono (eH oI.out.2.1 rM.out.2.2) HX.out.2.1) Ey.out.symm HXB.out.2 i (by have:=HX.out.2.2.2;omega) hS2.p1);obtain⟨av,hav⟩:=ay (fK cl i);rw[←hav] at rY;have Ew:=ah (And.intro hav (And.intro hlt2 hm2));have adK:(m2:Int)≤3584:=by omega
       clear hav hS2 hlt2 hi hm2 H2
       go_upto_region 17 with (fail)
       go_wp2_with fail
       refine rY.out.mono ?_;rintro e w3 ⟨a3,n3,c3,J3,rfl,hle3,hres,h3⟩;clear k0 k1 rY;have H3:=ah (show Sat W w3 (sep (aT 34 4 b2 m2 d2 vs2) (sep (kn J3) (sep (blk B (.cells #[.slice ta j tc,.slice ca cn cc] 30 (0,0))) A))) from h3.p1);have Y6:=ah hle3;cases av with
       | none=>
        have HF:Hid (rv=4):=ah (by rw[HR3.out,yD Ew.out.1.symm cl.length (by have:=HX.out.2.2.2;have:=Ew.out.2.1;omega)]);have HF2:=ah (H3.out.dU.p1.drop);clear h3 hle3 hres H3
        go_wp2
        rw[bK.out];exact⟨_,J3,by rw[HF.out];rfl,eH (eH oI.out.2.1 rM.out.2.2) Y6.out,HF2.out⟩
       | some y=>
        obtain⟨hn3,hr3⟩:=hres y rfl;obtain⟨us,yx,hu0,hu1,hur,jB⟩:=kU hr3;have HU:=ah (And.intro yx (And.intro hu0 (And.intro hu1 (jB w3 h3.ext))));have ZT:=xk Ew.out.1.symm;have HN:=ah (And.intro hn3 (show n3≤64 by omega));have hmn:m2+n3≤3700:=by omega
        have RZ:=ah hmn;clear h3 hle3 hres yx hu0 hu1 hur jB hn3 hr3 ZT hmn
        go_wp2_with (at_builtin;go_loud (refine aH rfl _ _ 27 rfl 34 4 64 _ Tryz.underlying27 iF rfl rfl H3.out rfl us HU.out.1 HU.out.2.1 HU.out.2.2.2 HU.out.2.2.1 (by have:=RZ.out;omega) (by unfold maxLen;have:=RZ.out;omega) ?_))
        intro a4 c4 w4 h4;have H4:=ah h4;clear h4 H3
        go_wp2
        go_roundw
        case rel=>exact⟨i+1,m2+n3,c4,s+y.length,a4,vs2++us,J3,rfl,by go_num,by have:=Ew.out.2.1;omega,by have:=Ew.out.2.2;have:=HN.out.2;rw[Nat.add_mul];omega,ah ⟨BG rM.out.1 Ew.out.1.symm,by rw[rM.out.2.1,HN.out.1];omega,eH rM.out.2.2 Y6.out⟩,H4.out⟩
        case measure=>simp[intOf];have:=Ew.out.2.1;omega
      ·obtain rfl:i=cn:=by omega
       have HR4:Hid (rv=if 128<m2 then 4 else 0):=ah (by
        have h1:=rM.out.1;rw[HX.out.2.2.2] at h1;rw[HR3.out,h1];show (if 128<(Fm.aW td).length+s then (4:Int) else 0)=_;rw[←oI.out.1,←rM.out.2.1])
       have HF2:=ah (hS2.dU.p1.drop)
       by_cases Jc:128<m2
       ·have Vt:(128:Int)<(m2:Int):=by omega
        have HF:Hid (rv=4):=ah (by rw[HR4.out,if_pos Jc]);clear Jc hS2 H2
        go_wp2
        rw[bK.out];exact⟨_,J2,by (rw[HF.out];try rfl),eH oI.out.2.1 rM.out.2.2,HF2.out⟩
       ·have Vt:¬(128:Int)<(m2:Int):=by omega
        have HF:Hid (rv=0):=ah (by rw[HR4.out,if_neg Jc]);clear Jc hS2 H2
        go_wp2
        rw[bK.out];exact⟨_,J2,by (rw[HF.out];try rfl),eH oI.out.2.1 rM.out.2.2,HF2.out⟩
    ·have he1:(ce !=0)=true:=by simpa using he0
     have he2:(ce==0)=false:=by simpa using he0
     have HF:Hid (rv=ce):=ah (by rw[HR2.out,←Ey.out];simp[he0]);have HF2:=ah (H2.out.dU.p1.drop);clear he0 H2
     go_wp2
     rw[bK.out];exact⟨_,J,by (rw[HF.out];try rfl),oI.out.2.1,HF2.out⟩
theorem vM {W w:World} {A:aA} {I:Mem} (ta:Option Addr) (tn tc:Nat) (ca:Option Addr) (cn cc:Nat) (td:List Fm) (cl:List Cl) (ht:(rF.slice 4).rel I [.slice ta tn tc] td) (hc:(kK.slice 5).rel I [.slice ca cn cc] cl) (hT:∀f∈td,f.size≤mG) (hB:∀x∈cl,x.body.size≤mG) (h:Sat W w (sep (kn I) A)):
 Calls Tryz.prog 138 #[.agg #[.slice ta tn tc,.slice ca cn cc]] w fun e w'=>∃J,e=.returned (.int .i64 (Es td cl))∧Mem.le I J∧Sat W w' (sep (kn J) A):=by
 have h1:=h.alloc (.cells #[.slice ta tn tc,.slice ca cn cc] 30);obtain⟨B,hBb⟩:=ay (w.heap.size);obtain⟨w1,hw1⟩:=ay (w.alloc (.cells #[.slice ta tn tc,.slice ca cn cc] 30));rw[←hBb,←hw1] at h1;have HB:=ah (And.intro hBb hw1);obtain⟨k0,k1,-,-⟩:=kG h1;have HD:=ah (xW ta tn tc ca cn cc td cl ht hc hT hB h1.p1);obtain⟨rv,dI⟩:=ay (Es td cl);rw[←dI] at HD ⊢;clear ht hc hT hB h h1 hBb hw1 dI
 go_enter Tryz.func138,Tryz.ntmps138
 go_upto_region 1 with (fail)
 rw[←HB.out.1,←HB.out.2]
 go_wp2_with fail
 refine HD.out.mono ?_;rintro e w2 ⟨v,J,rfl,hle,h2⟩;have H2:=ah (And.intro hle h2.p1.drop);clear hle h2 HD k0 k1
 go_wp2
 go_ret
 exact⟨J,rfl,H2.out.1,H2.out.2⟩
end Go.Proofs.YthfmaclnccdcbaaGreatDoor
namespace Go.Proofs.YthfmaclnccdcbaaGreatDoor
open Go.RowKit PA
attribute [local go_sem ↓] ig
attribute [local go_sem] BN
def SA (W:World) (I:Mem) (ys:List Fm) (A:aA) (e:Ending) (w':World):Prop:=
 ∃(a:Option Addr) (n c:Nat) (vs:List Value) (J:Mem),e=.returned (.slice a n c)∧n=ys.length∧Mem.le I J∧(rF.rows 4).rel J vs ys∧Sat W w' (sep (aT 34 4 a n c vs) (sep (kn J) A))
def SB (W:World) (l:List Fm):Prop:=
 ∀(w:World) (A:aA) (I:Mem) (a:Option Addr) (n c:Nat),(rF.slice 4).rel I [.slice a n c] l→Fm.sizes l≤pz→Sat W w (sep (kn I) A)→Calls Tryz.prog 200 #[.slice a n c] w (SA W I (Fm.aW l) A)
set_option maxRecDepth 100000 in
set_option maxHeartbeats 8000000 in
theorem zM {W:World} (l:List Fm) (ih:∀f∈l,SB W f.kids):SB W l:=by
 intro w A I a n c hv hsz h;have hn:=(aI hv).1;have hn63:=(aI hv).2.2;obtain⟨Po,dR⟩:=ay (SA W I (Fm.aW l) A);rw[←dR];have bK:=ah dR;have HX:=ah (And.intro hv (And.intro hsz (And.intro hn ih)));have H1:=ah h;clear hv hsz h hn dR ih
 go_enter Tryz.func200,Tryz.ntmps200
 go_wp2_with fail
 go_loopw [3,8] (fun ov iv wr=>∃(j m d:Nat) (b:Option Addr) (vs:List Value) (J:Mem),ov=.slice b m d∧iv=.int .i64 j∧j≤n∧m≤1000000∧Hid (m=(Fm.aW (l.take j)).length∧Mem.le I J∧(rF.rows 4).rel J vs (Fm.aW (l.take j)))∧Sat W wr (sep (aT 34 4 b m d vs) (sep (kn J) A))) (fun _ iv _=>n-(intOf iv).toNat)
 case atStart=>exact⟨0,0,0,none,[],I,rfl,rfl,by omega,by omega,ah ⟨by simp[Fm.aW],Mem.le_refl _,by simp only[List.take_zero,Fm.aW];exact kR _ _ _⟩,H1.out.fM 34 4⟩
 case round=>
  obtain⟨j,m,d,b,vs,J,rfl,rfl,hj,ZE,HV,hS⟩:=hrel
  by_cases hlt:j<n
  ·as_aux_lemma=>
   have hltz:(j:Int)<(n:Int):=by omega
   obtain⟨g,hg⟩:∃g,l[j]?=some g:=⟨_,List.getElem?_eq_getElem (by have:=HX.out.2.2.1;omega)⟩
   obtain⟨b2,o2,p',q',y1,m1,d1,y2,m2,d2,rfl,hgr,hcell⟩:=gU HX.out.1 hg;have hmem:g∈l:=List.mem_of_getElem? hg;have VL:=rF.mono HV.out.2.1 hgr;obtain⟨j0,j1,j2,j3⟩:=hcell wr (fun i o hb=>hS.p1.ext i o (HV.out.2.1 i o hb));have htk:=Fm.yh l j hg;have hgs:=Fm.kS hmem;have J7:(Fm.aW (l.take (j+1))).length≤1000000:=by have h1:=Fm.qE (l.take (j+1));have h2:=Fm.qx l (j+1);have h3:=HX.out.2.1;unfold pz at h3;omega
   have ihg:=HX.out.2.2.2 g hmem;obtain⟨o',n',i',k'⟩:=g;obtain⟨x1',c1',x2',c2',e,hi',hk'⟩:=dP.1 VL;simp only[List.cons.injEq,Value.int.injEq,Value.slice.injEq,true_and,and_true] at e;obtain⟨rfl,rfl,⟨rfl,rfl,rfl⟩,⟨rfl,rfl,rfl⟩⟩:=e;have hAl:=hS.alloc (.cells #[.int .i64 p',.int .i64 q',.slice y1 i'.length d1,.slice y2 k'.length d2] 34);obtain⟨ni,hni⟩:=ay (i'.length);obtain⟨nk,hnk⟩:=ay (k'.length);obtain⟨f0,hf0⟩:=ay (Fm.mk p' q' i' k');have hsk:Fm.sizes k'≤pz:=by
    have h3:=HX.out.2.1;rw[Fm.size] at hgs;omega
   rw[←hni,←hnk] at hAl VL;rw[←hni] at j2;rw[←hnk] at j3 hk';have hrec:∀w' A',Sat W w' (sep (kn J) A')→Calls Tryz.prog 200 #[.slice y2 nk d2] w' (SA W J (Fm.aW k') A'):=fun w' A' h'=>ihg w' A' J y2 nk d2 hk' hsk h'
   obtain⟨GA,Ud⟩:=ay (wr.heap.size);obtain⟨w4,hw4⟩:=ay (wr.alloc (.cells #[.int .i64 p',.int .i64 q',.slice y1 ni d1,.slice y2 nk d2] 34));rw[←Ud,←hw4] at hAl;obtain⟨k0,k1,k2,k3⟩:=kN hAl;have rY:Hid (Sat W w4 (sep (aT 34 4 b m d vs) (sep (kn J) (sep (blk GA (.cells #[.int .i64 p',.int .i64 q',.slice y1 ni d1,.slice y2 nk d2] 34 (0,0))) A)))):=ah (bT hAl);have VE:=ah (And.intro Ud hw4);have O9:=ah hrec;have HT:=ah (And.intro htk (And.intro J7 (And.intro hlt VL)));clear hgr hcell hmem VL htk hgs hrec hS hlt hj J7 H1 hg hAl Ud hw4 hi' hk' hsk hni hnk hf0 ihg
   by_cases o5:p'=5
   ·subst o5
    have Bo:Hid ((Fm.mk 5 q' i' k').dL=Fm.aW k'):=ah (by rw[Fm.dL,if_pos rfl])
    go_upto_region 5 with (fail)
    rw[←VE.out.1,←VE.out.2];clear j0 j1 j2 j3
    go_wp2_with fail
    refine (O9.out _ _ rY.out.p1).mono ?_;rintro e w2 ⟨a3,n3,c3,vs3,J2,rfl,hn3,hle2,hr2,h20⟩;obtain⟨J3,YG,hr3,h2⟩:=je hr2 hn3 h20;have hle3:=eH hle2 YG;obtain⟨us,yx,hu0,hu1,hur,jB⟩:=kU hr3;have hmn:m+n3≤1000000:=by have:=HT.out.2.1;rw[HT.out.1,dD,←HV.out.1,Bo.out,←hn3] at this;exact this
    have HU:=ah (And.intro yx (And.intro hu0 (And.intro hu1 (And.intro hur (jB w2 h2.ext)))));have HN:=ah (And.intro hmn (And.intro hn3 hle3));have H2:Hid (Sat W w2 (sep (aT 34 4 b m d vs) (sep (kn J3) A))):=ah (by
     have h3:Sat W w2 (sep (blk GA (.cells #[.int .i64 5,.int .i64 q',.slice y1 ni d1,.slice y2 nk d2] 34 (0,0))) (sep (aT 34 4 b m d vs) (sep (kn J3) A))):=bT h2;exact h3.forget)
    clear h2 h20 yx hu0 hu1 hur jB hmn hn3 hle3 hle2 YG hr3 hr2 O9 k0 k1 k2 k3
    go_wp2_with (at_builtin;go_loud (refine aH rfl _ _ 27 rfl 34 4 64 _ Tryz.underlying27 iF rfl rfl H2.out rfl us HU.out.1 HU.out.2.1 HU.out.2.2.2.2 HU.out.2.2.1 (by have:=HN.out.1;omega) (by unfold maxLen;have:=HN.out.1;omega) ?_))
    intro a4 c4 w5 h4;have H4:=ah h4;clear h4 H2
    go_wp2
    go_roundw
    case rel=>exact⟨j+1,m+n3,c4,a4,vs++us,J3,rfl,by go_num,by have:=HT.out.2.2.1;omega,HN.out.1,ah ⟨by rw[HT.out.1,dD,←HV.out.1,Bo.out,←HN.out.2.1],eH HV.out.2.1 HN.out.2.2,by rw[HT.out.1,Bo.out];exact gB ((rF.rows 4).mono HN.out.2.2 HV.out.2.2) HU.out.2.2.2.1⟩,H4.out⟩
    case measure=>simp[intOf];have:=HT.out.2.2.1;omega
   ·have Bo:Hid ((Fm.mk p' q' i' k').dL=[Fm.mk p' q' i' k']):=ah (by rw[Fm.dL,if_neg o5])
    have o5':(p'==5)=false:=by simpa using o5
    have hmn:m+1≤1000000:=by have:=HT.out.2.1;rw[HT.out.1,dD,←HV.out.1,Bo.out] at this;exact this
    have pJ:=ah (gW w4 [.int .i64 p',.int .i64 q',.slice y1 ni d1,.slice y2 nk d2] 34);have HA2:Hid (Sat W (w4.alloc (.cells #[.int .i64 p',.int .i64 q',.slice y1 ni d1,.slice y2 nk d2] 34)) (sep (aT 34 4 b m d vs) (sep (kn J) A))):=ah (by
     have h3:=rY.out.fO (.cells #[.int .i64 p',.int .i64 q',.slice y1 ni d1,.slice y2 nk d2] 34);have h5:Sat W (w4.alloc (.cells #[.int .i64 p',.int .i64 q',.slice y1 ni d1,.slice y2 nk d2] 34)) (sep (blk GA (.cells #[.int .i64 p',.int .i64 q',.slice y1 ni d1,.slice y2 nk d2] 34 (0,0))) (sep (aT 34 4 b m d vs) (sep (kn J) A))):=bT h3;exact h5.forget)
    have RZ:=ah hmn;clear o5 hmn
    go_upto_region 5 with (fail)
    rw[←VE.out.1,←VE.out.2];clear j0 j1 j2 j3
    go_wp2_with (at_builtin;refine aH rfl _ _ 27 rfl 34 4 64 _ Tryz.underlying27 iF rfl rfl HA2.out rfl [.int .i64 p',.int .i64 q',.slice y1 ni d1,.slice y2 nk d2] rfl (by simp) (by intro b' hb;cases hb;exact pJ.out) (xX HT.out.2.2.2) (by have:=RZ.out;omega) (by unfold maxLen;have:=RZ.out;omega) ?_)
    intro a4 c4 w5 h4;have H4:=ah h4;clear h4 HA2 pJ k0 k1 k2 k3
    go_wp2
    go_roundw
    case rel=>exact⟨j+1,m+1,c4,a4,_,J,rfl,by go_num,by have:=HT.out.2.2.1;omega,RZ.out,ah ⟨by rw[HT.out.1,dD,←HV.out.1,Bo.out];rfl,HV.out.2.1,by rw[HT.out.1,Bo.out];exact gB HV.out.2.2 (gZ HT.out.2.2.2 rfl)⟩,H4.out⟩
    case measure=>simp[intOf];have:=HT.out.2.2.1;omega
  ·obtain rfl:j=n:=by omega
   obtain⟨hv1,hv2,hv3⟩:=HV.out;rw[List.take_of_length_le (by have:=HX.out.2.2.1;omega)] at hv1 hv3;have HF:=ah (And.intro hv1 (And.intro hv2 (And.intro hv3 hS)));clear hS hv1 hv2 hv3 H1
   go_wp2
   rw[bK.out];exact⟨b,m,d,vs,J,rfl,HF.out.1,HF.out.2.1,HF.out.2.2.1,HF.out.2.2.2⟩
theorem JI {W:World} (f:Fm):SB W f.kids:=
 Fm.ind (P:=fun f=>SB W f.kids) (fun _ _ _ k ih=>zM k ih) f
theorem JJ {W:World} (l:List Fm):SB W l:=zM l fun f _=>JI f
set_option maxRecDepth 100000 in
set_option maxHeartbeats 8000000 in
theorem Au {W w:World} {A:aA} {I:Mem} (ta:Option Addr) (tn tc:Nat) (ca:Option Addr) (cn cc:Nat) (td:List Fm) (cl:List Cl) (ht:(rF.slice 4).rel I [.slice ta tn tc] td) (hc:(kK.slice 5).rel I [.slice ca cn cc] cl) (hT:∀f∈td,Jl f) (hB:∀x∈cl,Jl x.body) (h:Sat W w (sep (kn I) A)):
 Calls Tryz.prog 171 #[.agg #[.slice ta tn tc,.slice ca cn cc]] w fun e w'=>∃v J,e=.returned (.tuple #[v,.int .i64 (Es td cl)])∧Mem.le I J∧Sat W w' (sep (kn J) A):=by
 have htn:=(aI ht).1;have ZM:=(aI ht).2.2;have hcn:=(aI hc).1;have hc63:=(aI hc).2.2;have h1:=h.alloc (.cells #[.slice ta tn tc,.slice ca cn cc] 30);obtain⟨B,hBb⟩:=ay (w.heap.size);obtain⟨w1,hw1⟩:=ay (w.alloc (.cells #[.slice ta tn tc,.slice ca cn cc] 30));rw[←hBb,←hw1] at h1;have HB:=ah (And.intro hBb hw1);have H1:=ah h1;obtain⟨k0,k1,-,-⟩:=kG h1;obtain⟨rv,dI⟩:=ay (Es td cl);rw[←dI];obtain⟨Po,dR⟩:∃P:Ending→World→Prop,P=fun e w'=>∃v J,e=.returned (.tuple #[v,.int .i64 rv])∧Mem.le I J∧Sat W w' (sep (kn J) A):=⟨_,rfl⟩
 rw[←dR];have bK:=ah dR;clear dR;have bJ:Hid (rv=if 16<tn then 4 else if kP td≠0 then kP td else if pR cl≠0 then pR cl else match jI cl cl.length with|none=>4|some s=>if 128<(Fm.aW td).length+s then 4 else 0):=ah (by rw[dI,htn];rfl);have HX:=ah (And.intro ht (And.intro hc (And.intro htn hcn)));have HXB:=ah (And.intro hT hB);clear ht hc hT hB h htn hcn h1 hBb hw1 dI
 by_cases Vu:16<tn
 ·have Vw:(16:Int)<(tn:Int):=by omega
  have HF:Hid (rv=4):=ah (by rw[bJ.out,if_pos Vu]);clear Vu
  go_enter Tryz.func171,Tryz.ntmps171
  go_upto_region 1 with (fail)
  rw[←HB.out.1,←HB.out.2]
  go_wp2
  rw[bK.out];exact⟨_,I,by rw[HF.out];rfl,Mem.le_refl _,H1.out.drop⟩
 ·have Vw:¬(16:Int)<(tn:Int):=by omega
  have HR1:Hid (rv=if kP td≠0 then kP td else if pR cl≠0 then pR cl else match jI cl cl.length with|none=>4|some s=>if 128<(Fm.aW td).length+s then 4 else 0):=ah (by rw[bJ.out,if_neg Vu]);have aaO:=ah Vu;have abO:(tn:Int)≤16:=by omega
  clear Vu bJ
  go_enter Tryz.func171,Tryz.ntmps171
  go_upto_region 1 with (fail)
  rw[←HB.out.1,←HB.out.2]
  go_upto_region 3 with (fail)
  clear Vw
  go_wp2_with fail
  clear k0 k1
  go_loopw [19] (fun iv wr=>∃(j:Nat),iv=.int .i64 j∧j≤tn∧Hid (kP td=kP (td.drop j))∧Sat W wr (sep (kn I) (sep (blk B (.cells #[.slice ta tn tc,.slice ca cn cc] 30 (0,0))) A))) (fun iv _=>tn-(intOf iv).toNat)
  case atStart=>exact⟨0,rfl,by omega,ah rfl,H1.out.p1⟩
  case round=>
   obtain⟨j,rfl,hj,HV,hS⟩:=hrel
   by_cases hlt:j<tn
   ·as_aux_lemma=>
    have hltz:(j:Int)<(tn:Int):=by omega
    obtain⟨f,hf⟩:∃f,td[j]?=some f:=⟨_,List.getElem?_eq_getElem (by have:=HX.out.2.2.1;omega)⟩
    obtain⟨b,o,p,q,x1,n1,c1,x2,n2,c2,rfl,hrf,hcell⟩:=gU HX.out.1 hf;obtain⟨j0,j1,j2,j3⟩:=hcell wr hS.ext;have hfs:=HXB.out.1 f (List.mem_of_getElem? hf);have hAl:=hS.alloc (.cells #[.int .i64 p,.int .i64 q,.slice x1 n1 c1,.slice x2 n2 c2] 34);obtain⟨GA,Ud⟩:=ay (wr.heap.size);obtain⟨w4,hw4⟩:=ay (wr.alloc (.cells #[.int .i64 p,.int .i64 q,.slice x1 n1 c1,.slice x2 n2 c2] 34));rw[←Ud,←hw4] at hAl;obtain⟨k0,k1,k2,k3⟩:=kN hAl;have vg:=ah (lF f p q x1 n1 c1 x2 n2 c2 hrf hfs.1 hfs.2 hAl.p1);obtain⟨fe,hfe⟩:=ay (jY f);have hdr:=HV.out.trans (FN hf);rw[←hfe] at vg hdr;have HDR:=ah hdr;have XL:=ah hlt;have VE:=ah (And.intro Ud hw4);clear hrf hcell hfs hfe hdr hf hlt hj hS H1 hAl Ud hw4
    go_upto_region 6 with (fail)
    rw[←VE.out.1,←VE.out.2];clear j0 j1 j2 j3
    go_wp2_with fail
    refine vg.out.mono ?_;rintro e w2 ⟨rfl,h2⟩;clear k0 k1 k2 k3 vg;have H2:Hid (Sat W w2 (sep (kn I) (sep (blk B (.cells #[.slice (some ⟨b,o,none⟩) tn tc,.slice ca cn cc] 30 (0,0))) A))):=ah (show Sat W w2 (sep (blk GA (.cells #[.int .i64 p,.int .i64 q,.slice x1 n1 c1,.slice x2 n2 c2] 34 (0,0))) (sep (kn I) (sep (blk B (.cells #[.slice (some ⟨b,o,none⟩) tn tc,.slice ca cn cc] 30 (0,0))) A))) from h2.p1).forget;clear h2
    by_cases he0:fe=0
    ·subst he0
     have Y1:Hid (kP td=kP (td.drop (j+1))):=ah (by rw[HDR.out];simp);clear HDR
     go_wp2
     go_roundw
     case rel=>exact⟨j+1,by go_num,by have:=XL.out;omega,Y1,H2.out⟩
     case measure=>simp[intOf];have:=XL.out;omega
    ·have he1:(fe !=0)=true:=by simpa using he0
     have he2:(fe==0)=false:=by simpa using he0
     have HF:Hid (rv=fe):=ah (by rw[HR1.out,HDR.out];simp[he0]);clear he0
     go_wp2
     rw[bK.out];exact⟨_,I,by rw[HF.out];rfl,Mem.le_refl _,H2.out.p1.drop⟩
   ·obtain rfl:j=tn:=by omega
    as_aux_lemma=>
    have hv4:=HV.out;rw[List.drop_of_length_le (by have:=HX.out.2.2.1;omega)] at hv4;have HR2:Hid (rv=if pR cl≠0 then pR cl else match jI cl cl.length with|none=>4|some s=>if 128<(Fm.aW td).length+s then 4 else 0):=ah (by rw[HR1.out,hv4];rfl);obtain⟨k0,k1,-,-⟩:=kG hS.p1;have Zh:=ah (l9 ca cn cc cl HX.out.2.1 HXB.out.2 hS);obtain⟨ce,hce⟩:=ay (pR cl);rw[←hce] at Zh;have Ey:=ah hce;have h4:kP td=0:=hv4;have yA:Hid (Fm.sizes td≤1600):=ah (by
     have key:∀l:List Fm,kP l=0→Fm.sizes l≤96*l.length:=by
      intro l
      induction l with
      | nil=>intro _;simp[Fm.sizes]
      | cons f l ihl=>
       intro h0;rw[kP] at h0;split at h0
       ·rename_i h6;exact absurd h0 h6
       ·rename_i h6
        have h7:=lg (Classical.not_not.1 h6);have h8:=ihl h0;rw[Fm.sizes,List.length_cons];omega
     have:=key td h4;have:=HX.out.2.2.1;have:=aaO.out;omega)
    clear hv4 h4 hce hS hj hlt HR1 H1
    go_upto_region 10 with (fail)
    go_wp2_with fail
    refine Zh.out.mono ?_;rintro e w2 ⟨rfl,h2⟩;clear k0 k1 Zh;have H2:=ah h2;clear h2
    by_cases he0:ce=0
    ·subst he0
     have HR3:Hid (rv=match jI cl cl.length with|none=>4|some s=>if 128<(Fm.aW td).length+s then 4 else 0):=ah (by rw[HR2.out,←Ey.out];rfl);have hc32:=(sO Ey.out.symm).1;have adB:(cn:Int)≤32:=by have:=HX.out.2.2.2;omega
     obtain⟨k0,k1,-,-⟩:=kG H2.out.p1;have HDP:=ah (JJ td w2 _ I ta j tc HX.out.1 (by have:=yA.out;unfold pz;omega) H2.out);clear hc32 HR2
     go_upto_region 13 with (fail)
     go_wp2_with fail
     refine HDP.out.mono ?_;rintro e w3 ⟨bO,m,d,vs,J,rfl,hm,uX,hrJ,h3⟩;have abH:m≤1600:=by
      rw[hm];have h4:=Fm.qE td;have:=yA.out;omega
     have oI:=ah (And.intro hm (And.intro uX hrJ));have RY:=ah abH;have H3:=ah h3;clear H2 HDP k0 k1 hm uX hrJ h3;obtain⟨-,k1,-,-⟩:=kG H3.out.p2
     go_upto_region 14 with (fail)
     go_wp2_with fail
     clear k1
     go_loopw [8,41] (fun ov iv wr=>∃(i m2 d2 s:Nat) (b2:Option Addr) (vs2:List Value) (J2:Mem),ov=.slice b2 m2 d2∧iv=.int .i64 i∧i≤cn∧m2≤1600+i*64∧Hid (jI cl i=some s∧m2=m+s∧Mem.le J J2)∧Sat W wr (sep (aT 34 4 b2 m2 d2 vs2) (sep (kn J2) (sep (blk B (.cells #[.slice ta j tc,.slice ca cn cc] 30 (0,0))) A)))) (fun _ iv _=>cn-(intOf iv).toNat)
     case atStart=>exact⟨0,m,d,0,bO,vs,J,rfl,rfl,by omega,by have:=RY.out;omega,ah ⟨rfl,rfl,Mem.le_refl _⟩,H3.out⟩
     case round=>
      obtain⟨i,m2,d2,s,b2,vs2,J2,rfl,rfl,hi,hm2,rM,hS2⟩:=hrel;obtain⟨k0,k1,-,-⟩:=kG hS2.p2
      by_cases hlt2:i<cn
      ·have Uh:(i:Int)<(cn:Int):=by omega
       have rY:=ah (Rh ca cn cc cl ((kK.slice 5).mono (eH oI.out.2.1 rM.out.2.2) HX.out.2.1) Ey.out.symm HXB.out.2 i (by have:=HX.out.2.2.2;omega) hS2.p1);obtain⟨av,hav⟩:=ay (fK cl i);rw[←hav] at rY;have Ew:=ah (And.intro hav (And.intro hlt2 hm2));have adK:(m2:Int)≤3700:=by omega
       clear hav hS2 hlt2 hi hm2 H3
       go_upto_region 17 with (fail)
       go_wp2_with fail
       refine rY.out.mono ?_;rintro e w5 ⟨a3,n3,c3,J3,rfl,hle3,hres,h5⟩;clear k0 k1 rY;have H5:=ah (show Sat W w5 (sep (aT 34 4 b2 m2 d2 vs2) (sep (kn J3) (sep (blk B (.cells #[.slice ta j tc,.slice ca cn cc] 30 (0,0))) A))) from h5.p1);have Y6:=ah hle3;cases av with
       | none=>
        have HF:Hid (rv=4):=ah (by rw[HR3.out,yD Ew.out.1.symm cl.length (by have:=HX.out.2.2.2;have:=Ew.out.2.1;omega)]);have HF2:=ah (H5.out.dU.p1.drop);clear h5 hle3 hres H5
        go_wp2
        rw[bK.out];exact⟨_,J3,by rw[HF.out];rfl,eH (eH oI.out.2.1 rM.out.2.2) Y6.out,HF2.out⟩
       | some y=>
        obtain⟨hn3,hr3⟩:=hres y rfl;obtain⟨us,yx,hu0,hu1,hur,jB⟩:=kU hr3;have HU:=ah (And.intro yx (And.intro hu0 (And.intro hu1 (jB w5 h5.ext))));have ZT:=xk Ew.out.1.symm;have HN:=ah (And.intro hn3 (show n3≤64 by omega));have hmn:m2+n3≤3800:=by omega
        have RZ:=ah hmn;clear h5 hle3 hres yx hu0 hu1 hur jB hn3 hr3 ZT hmn
        go_wp2_with (at_builtin;go_loud (refine aH rfl _ _ 27 rfl 34 4 64 _ Tryz.underlying27 iF rfl rfl H5.out rfl us HU.out.1 HU.out.2.1 HU.out.2.2.2 HU.out.2.2.1 (by have:=RZ.out;omega) (by unfold maxLen;have:=RZ.out;omega) ?_))
        intro a4 c4 w4 h4;have H4:=ah h4;clear h4 H5
        go_wp2
        go_roundw
        case rel=>exact⟨i+1,m2+n3,c4,s+y.length,a4,vs2++us,J3,rfl,by go_num,by have:=Ew.out.2.1;omega,by have:=Ew.out.2.2;have:=HN.out.2;rw[Nat.add_mul];omega,ah ⟨BG rM.out.1 Ew.out.1.symm,by rw[rM.out.2.1,HN.out.1];omega,eH rM.out.2.2 Y6.out⟩,H4.out⟩
        case measure=>simp[intOf];have:=Ew.out.2.1;omega
      ·obtain rfl:i=cn:=by omega
       have HR4:Hid (rv=if 128<m2 then 4 else 0):=ah (by
        have h1:=rM.out.1;rw[HX.out.2.2.2] at h1;rw[HR3.out,h1];show (if 128<(Fm.aW td).length+s then (4:Int) else 0)=_;rw[←oI.out.1,←rM.out.2.1])
       have HF2:=ah (hS2.dU.p1.drop)
       by_cases Jc:128<m2
       ·have Vt:(128:Int)<(m2:Int):=by omega
        have HF:Hid (rv=4):=ah (by rw[HR4.out,if_pos Jc]);clear Jc hS2 H3
        go_wp2
        rw[bK.out];exact⟨_,J2,by (rw[HF.out];try rfl),eH oI.out.2.1 rM.out.2.2,HF2.out⟩
       ·have Vt:¬(128:Int)<(m2:Int):=by omega
        have HF:Hid (rv=0):=ah (by rw[HR4.out,if_neg Jc]);clear Jc hS2 H3
        go_wp2
        rw[bK.out];exact⟨_,J2,by (rw[HF.out];try rfl),eH oI.out.2.1 rM.out.2.2,HF2.out⟩
    ·have he1:(ce !=0)=true:=by simpa using he0
     have he2:(ce==0)=false:=by simpa using he0
     have HF:Hid (rv=ce):=ah (by rw[HR2.out,←Ey.out];simp[he0]);have HF2:=ah (H2.out.p1.drop);clear he0 H2
     go_wp2
     rw[bK.out];exact⟨_,I,by (rw[HF.out];try rfl),Mem.le_refl _,HF2.out⟩
theorem xM {W w:World} {A:aA} {I:Mem} (ta:Option Addr) (tn tc:Nat) (ca:Option Addr) (cn cc:Nat) (td:List Fm) (cl:List Cl) (ht:(rF.slice 4).rel I [.slice ta tn tc] td) (hc:(kK.slice 5).rel I [.slice ca cn cc] cl) (hT:∀f∈td,Jl f) (hB:∀x∈cl,Jl x.body) (h:Sat W w (sep (kn I) A)):
 Calls Tryz.prog 128 #[.agg #[.slice ta tn tc,.slice ca cn cc]] w fun e w'=>∃J,e=.returned (.int .i64 (Es td cl))∧Mem.le I J∧Sat W w' (sep (kn J) A):=by
 have h1:=h.alloc (.cells #[.slice ta tn tc,.slice ca cn cc] 30);obtain⟨B,hBb⟩:=ay (w.heap.size);obtain⟨w1,hw1⟩:=ay (w.alloc (.cells #[.slice ta tn tc,.slice ca cn cc] 30));rw[←hBb,←hw1] at h1;have HB:=ah (And.intro hBb hw1);obtain⟨k0,k1,-,-⟩:=kG h1;have HD:=ah (Au ta tn tc ca cn cc td cl ht hc hT hB h1.p1);obtain⟨rv,dI⟩:=ay (Es td cl);rw[←dI] at HD ⊢;clear ht hc hT hB h h1 hBb hw1 dI
 go_enter Tryz.func128,Tryz.ntmps128
 go_upto_region 1 with (fail)
 rw[←HB.out.1,←HB.out.2]
 go_wp2_with fail
 refine HD.out.mono ?_;rintro e w2 ⟨v,J,rfl,hle,h2⟩;have H2:=ah (And.intro hle h2.p1.drop);clear hle h2 HD k0 k1
 go_wp2
 go_ret
 exact⟨J,rfl,H2.out.1,H2.out.2⟩
end Go.Proofs.YthfmaclnccdcbaaGreatDoor
namespace Go.Proofs.YthfmaclnccdcbaaGreatDoor
open Go.RowKit PA
theorem OD {W w:World} {A:aA} (h:Sat W w A):Sat W (w.alloc (.cells #[.slice none 0 0] 104)) (sep (dM w.heap.size []) A):=
 uK (a:=none) (n:=0) (c:=0) (bs:=[]) ((h.fM 5 1).alloc (.cells #[.slice none 0 0] 104))
theorem Eo {W w:World} {A:aA} {p:Nat} {bs:List UInt8} (h:Sat W w (sep (dM p bs) A)):Sat W w A:=by
 obtain⟨a,n,c,-,h1⟩:=qo h;exact h1.forget.dU
set_option maxRecDepth 100000 in
set_option maxHeartbeats 8000000 in
theorem vH {W w:World} {A:aA} {I:Mem} (a:Option Addr) (n c:Nat) (l:List Cl) (hv:(kK.slice 5).rel I [.slice a n c] l) (hB:∀x∈l,Jl x.body) (hok:∀x∈l,Eu x) (hlen:(gq l).length≤134217728) (h:Sat W w (sep (kn I) A)):
 Calls Tryz.prog 76 #[.slice a n c] w fun e w'=>∃(b:Option Addr) (m d:Nat) (J:Mem),e=.returned (.tuple #[.slice b m d,.int .i64 (pR l)])∧Mem.le I J∧dB.rel J [.slice b m d] (gQ l)∧Sat W w' (sep (kn J) A):=by
 have hn:=(aI hv).1;have hn63:=(aI hv).2.2;have vg:=ah (l9 a n c l hv hB h);obtain⟨rv,dI⟩:=ay (pR l);obtain⟨E,hE⟩:=ay (gQ l);have pq:Hid ((rv≠0→E=[])∧(rv=0→E=gq l)):=ah ⟨fun h0=>by rw[hE];unfold gQ;rw[if_neg (by rw[←dI];exact h0)],fun h0=>by rw[hE];unfold gQ;rw[if_pos (by rw[←dI];exact h0)]⟩;rw[←dI] at vg ⊢;rw[←hE];obtain⟨Po,dR⟩:∃P:Ending→World→Prop,P=fun e w'=>∃(b:Option Addr) (m d:Nat) (J:Mem),e=.returned (.tuple #[.slice b m d,.int .i64 rv])∧Mem.le I J∧dB.rel J [.slice b m d] E∧Sat W w' (sep (kn J) A):=⟨_,rfl⟩
 rw[←dR];have bK:=ah dR;have HX:=ah (And.intro hv (And.intro hB (And.intro hok (And.intro hn dI))));have HLEN:=ah hlen;clear hv hB hok hn h hE dI dR hlen
 by_cases hb0:rv=0
 ·subst hb0
  have adI:=(sO HX.out.2.2.2.2.symm).1;have hn32:(n:Int)≤32:=by have:=HX.out.2.2.2.1;omega
  have hbody:∀(k:Nat) x,l[k]?=some x→jY x.body=0∧x.refs.length≤8:=fun k x hx=>by
   obtain⟨hk,e⟩:=List.getElem?_eq_some_iff.1 hx;have:=(sO HX.out.2.2.2.2.symm).2 k hk;rw[e] at this;exact⟨this.2.2,this.1⟩
  obtain⟨V,hV⟩:∃V:Nat→List UInt8,V=fun k=>PA.encI (n:Int)++((l.take k).map nO).flatten:=⟨_,rfl⟩
  have hV0:([]:List UInt8)++PA.encI (n:Int)=V 0:=by rw[hV];simp
  have Am:∀k x,l[k]?=some x→V (k+1)=V k++fU x.refs++encR (bV x.body):=fun k x hx=>by
   rw[hV];simp only;rw[mV nO hx];unfold nO;simp only[List.append_assoc]
  have YC:V n=E:=by rw[hV,pq.out.2 rfl];simp only;rw[HX.out.2.2.2.1,List.take_length];rfl
  have Ak:∀k,(V k).length≤134217728:=fun k=>by
   rw[hV];simp only;have h1:=uF nO l k;have h2:=HLEN.out;unfold gq nP at h2;rw[dD] at h2 ⊢;rw[HX.out.2.2.2.1];omega
  have HVV:=ah (And.intro hV0 (And.intro Am (And.intro YC Ak)));have HBO:=ah hbody;clear hV hV0 Am YC Ak hbody adI
  go_enter Tryz.func76,Tryz.ntmps76
  go_wp2_with fail
  refine vg.out.mono ?_;rintro e w2 ⟨rfl,h2⟩;have h3:=OD h2;obtain⟨P,hP⟩:=ay (w2.heap.size);obtain⟨w3,hw3⟩:=ay (w2.alloc (.cells #[.slice none 0 0] 104));rw[←hP,←hw3] at h3;have hw:=iJ P [] (n:Int) (by omega) (by omega) h3 (by simp);rw[HVV.out.1] at hw;have Jq:=ah hw;have HP:=ah (And.intro hP hw3);clear h2 h3 hP hw3 hw vg
  go_upto_region 5 with (fail)
  rw[←HP.out.1,←HP.out.2]
  go_wp2_with fail
  refine Jq.out.mono ?_;rintro e w4 ⟨rfl,h4⟩;have H4:=ah h4;clear h4 Jq HP
  go_wp2_with fail
  go_loopw [23] (fun iv wr=>∃(k:Nat) (J:Mem),iv=.int .i64 k∧k≤n∧Hid (Mem.le I J)∧Sat W wr (sep (dM P (V k)) (sep (kn J) A))) (fun iv _=>n-(intOf iv).toNat)
  case atStart=>exact⟨0,I,rfl,by omega,ah (Mem.le_refl _),H4.out⟩
  case round=>
   obtain⟨k,J,rfl,hk,HJ,hS⟩:=hrel;clear H4
   by_cases hlt:k<n
   ·as_aux_lemma=>
    have hltz:(k:Int)<(n:Int):=by omega
    obtain⟨x,hx⟩:∃x,l[k]?=some x:=⟨_,List.getElem?_eq_getElem (by have:=HX.out.2.2.2.1;omega)⟩
    obtain⟨b,o,ra,rc,p,q,x1,n1,c1,x2,n2,c2,rfl,hrr,hrb,hcell⟩:=uo HX.out.1 hx;have hxm:=List.mem_of_getElem? hx;obtain⟨hbe,ZJ⟩:=HBO.out k x hx;have hxo:=HX.out.2.2.1 x hxm;obtain⟨j0,j1,j2,j3,j4⟩:=hcell wr (fun g u hb=>hS.p1.ext g u (HJ.out g u hb));have hvs:=HVV.out.2.1 k x hx;have hvl:=HVV.out.2.2.2 k;have hE0:gu x.body=bV x.body:=by unfold gu;rw[if_pos hbe]
    obtain⟨nr,hnr⟩:=ay (x.refs.length);rw[←hnr] at hrr j0 ZJ;have hAl:=hS.alloc (.cells #[.slice ra nr rc,.int .i64 p,.int .i64 q,.slice x1 n1 c1,.slice x2 n2 c2] 91);obtain⟨M,hM⟩:=ay (wr.heap.size);obtain⟨w5,hw5⟩:=ay (wr.alloc (.cells #[.slice ra nr rc,.int .i64 p,.int .i64 q,.slice x1 n1 c1,.slice x2 n2 c2] 91));rw[←hM,←hw5] at hAl;obtain⟨k0,k1,k2,k3,k4⟩:=cl5 hAl;have hfe:=pG x.body p q x1 n1 c1 x2 n2 c2 (rF.mono HJ.out hrb) (HX.out.2.1 x hxm) hxo.b64 (show Sat W w5 (sep (kn J) (sep (blk M (.cells #[.slice ra nr rc,.int .i64 p,.int .i64 q,.slice x1 n1 c1,.slice x2 n2 c2] 91 (0,0))) (sep (dM P (V k)) A))) by exact bT hAl);rw[hbe,hE0] at hfe;have vT:=ah hfe;have GV:=ah (And.intro hM hw5);have HK:=ah (And.intro hlt (And.intro hvs (And.intro hvl (And.intro hxo hnr))));have HRR:=ah hrr;clear hrr hrb hcell hxm hbe hxo hvs hvl hE0 hAl hM hw5 hfe hlt hk hS hnr hx
    go_upto_region 9 with (fail)
    rw[←GV.out.1,←GV.out.2];clear j0 j1 j2 j3 j4
    go_wp2_with fail
    refine vT.out.mono ?_;rintro e w6 ⟨fb,fl,fc,J2,rfl,hle2,Dc,h6⟩;clear k0 k1 k2 k3 k4 vT;have h7:Sat W w6 (sep (blk M (.cells #[.slice ra nr rc,.int .i64 p,.int .i64 q,.slice x1 n1 c1,.slice x2 n2 c2] 91 (0,0))) (sep (dM P (V k)) (sep (kn J2) A))):=bT h6;obtain⟨k0,-,-,-,-⟩:=cl5 h7;have hws:=zV P (V k) ra nr rc x.refs HK.out.2.2.2.2 (by have:=HK.out.2.2.2.2;omega) HK.out.2.2.2.1.r64 (fun w' B hs j r hr=>by
     obtain⟨rb,ro,e,hrc⟩:=nT HRR.out hr;exact⟨rb,ro,e,hrc w' (fun g u hb=>(show Sat W w' (sep (kn J2) (sep B A)) by exact bT hs).ext g u (hle2 g u (HJ.out g u hb)))⟩) (show Sat W w6 (sep (dM P (V k)) (sep (kn J2) A)) from h7.forget) (by have:=HK.out.2.2.1;omega)
    have HWS:=ah hws;have H2:=ah (And.intro hle2 Dc);clear h6 h7 hle2 Dc hws
    go_upto_region 12 with (fail)
    go_wp2_with fail
    refine HWS.out.mono ?_;rintro e w7 ⟨rfl,h8⟩;have hel:(fU x.refs).length≤200:=by
     have h1:=uy (l:=x.refs) (by have:=HK.out.2.2.2.2;omega) HK.out.2.2.2.1.r64 x.refs.length;rw[pW] at h1;have:=HK.out.2.2.2.2;omega
    have hwr:=nD P (V k++fU x.refs) (.slice fb fl fc) (bV x.body) h8 H2.out.2 (by rw[dD];have:=HK.out.2.2.1;omega) (by have:=HK.out.2.2.2.1.bl;omega);rw[←HK.out.2.1] at hwr;have Jr:=ah hwr;clear h8 hwr hel HWS k0
    go_wp2_with fail
    refine Jr.out.mono ?_;rintro e w8 ⟨rfl,h9⟩;have H9:=ah h9;clear h9 Jr
    go_wp2
    go_roundw
    case rel=>exact⟨k+1,J2,by go_num,by have:=HK.out.1;omega,ah (eH HJ.out H2.out.1),H9.out⟩
    case measure=>simp[intOf];have:=HK.out.1;omega
   ·obtain rfl:k=n:=by omega
    rw[HVV.out.2.2.1] at hS;have hEl:E.length≤134217728:=by rw[←HVV.out.2.2.1];exact HVV.out.2.2.2 k
    have HD:=ah (oC P E hS (by omega));clear hS hlt hk hEl
    go_wp2_with fail
    refine HD.out.mono ?_;rintro e w5 ⟨a5,c5,rfl,h5⟩;have h6:Sat W w5 (sep (aT 5 1 a5 E.length c5 (E.map bv)) (sep (kn J) A)):=Eo (by simpa only[aF,aC,aj] using h5);obtain⟨J3,hle3,hr3,h7⟩:=iw h6 rfl;have HF:=ah (And.intro (eH HJ.out hle3) (And.intro hr3 h7));clear h5 h6 hle3 hr3 h7 HD
    go_wp2
    rw[bK.out];exact⟨a5,E.length,c5,J3,rfl,HF.out.1,HF.out.2.1,HF.out.2.2⟩
 ·have GU:=ah (pq.out.1 hb0)
  have hb1:(rv !=0)=true:=by simpa using hb0
  have hb2:(rv==0)=false:=by simpa using hb0
  clear pq hb0
  go_enter Tryz.func76,Tryz.ntmps76
  go_wp2_with fail
  refine vg.out.mono ?_;rintro e w2 ⟨rfl,h2⟩;have HF:=ah h2;clear h2 vg
  go_wp2
  rw[bK.out];exact⟨none,0,0,I,rfl,Mem.le_refl I,by rw[GU.out];exact iZ I,HF.out⟩
end Go.Proofs.YthfmaclnccdcbaaGreatDoor
namespace Go.Proofs.YthfmaclnccdcbaaGreatDoor
open Go.RowKit PA
set_option maxRecDepth 100000 in
set_option maxHeartbeats 8000000 in
theorem EU {W w:World} {A:aA} {I:Mem} (ta:Option Addr) (tn tc:Nat) (ca:Option Addr) (cn cc:Nat) (td:List Fm) (cl:List Cl) (ht:(rF.slice 4).rel I [.slice ta tn tc] td) (hc:(kK.slice 5).rel I [.slice ca cn cc] cl) (hT:∀f∈td,Jl f) (hB:∀x∈cl,Jl x.body)
 (hTO:∀f∈td,Qm f) (hCO:∀x∈cl,Eu x) (hlen:(lX td cl).length≤268435456) (hlc:(gq cl).length≤134217728) (h:Sat W w (sep (kn I) A)):
 Calls Tryz.prog 73 #[.agg #[.slice ta tn tc,.slice ca cn cc]] w fun e w'=>∃(b:Option Addr) (m d:Nat) (J:Mem),e=.returned (.tuple #[.slice b m d,.int .i64 (Es td cl)])∧Mem.le I J∧dB.rel J [.slice b m d] (jG td cl)∧Sat W w' (sep (kn J) A):=by
 have htn:=(aI ht).1;have ZM:=(aI ht).2.2;have h1:=h.alloc (.cells #[.slice ta tn tc,.slice ca cn cc] 30);obtain⟨B,hBb⟩:=ay (w.heap.size);obtain⟨w1,hw1⟩:=ay (w.alloc (.cells #[.slice ta tn tc,.slice ca cn cc] 30));rw[←hBb,←hw1] at h1;have SG:=ah (And.intro hBb hw1);obtain⟨k0,k1,-,-⟩:=kG h1;have vg:=ah (xM ta tn tc ca cn cc td cl ht hc hT hB h1.p1);obtain⟨rv,dI⟩:=ay (Es td cl);obtain⟨E,hE⟩:=ay (jG td cl);have pq:Hid ((rv≠0→E=[])∧(rv=0→E=lX td cl)):=ah ⟨fun h0=>by rw[hE];unfold jG;rw[if_neg (by rw[←dI];exact h0)],fun h0=>by rw[hE];unfold jG;rw[if_pos (by rw[←dI];exact h0)]⟩;rw[←dI] at vg ⊢;rw[←hE];obtain⟨Po,dR⟩:∃P:Ending→World→Prop,P=fun e w'=>∃(b:Option Addr) (m d:Nat) (J:Mem),e=.returned (.tuple #[.slice b m d,.int .i64 rv])∧Mem.le I J∧dB.rel J [.slice b m d] E∧Sat W w' (sep (kn J) A):=⟨_,rfl⟩
 rw[←dR];have bK:=ah dR;have HX:=ah (And.intro ht (And.intro hc (And.intro hT (And.intro hB (And.intro hTO (And.intro hCO htn))))));have HLEN:=ah (And.intro hlen hlc);clear ht hc hT hB hTO hCO htn h h1 hBb hw1 hE dI dR hlen hlc
 by_cases hb0:rv=0
 ·subst hb0
  have hEn:E=lX td cl:=pq.out.2 rfl;have htl:tn≤268435456:=by
   have key:∀l:List Fm,l.length≤(rO l).length:=by
    intro l
    induction l with
    | nil=>simp
    | cons g l ih=>
     unfold rO at ih ⊢;rw[List.map_cons,List.flatten_cons,dD,List.length_cons];have:1≤(encR (gu g)).length:=by
      unfold encR;rw[dD];have:=uvarint_pos (gu g).length;omega
     omega
   have h1:=key td;have h2:=HLEN.out.1;unfold lX at h2;simp only[dD] at h2;rw[HX.out.2.2.2.2.2.2];omega
  obtain⟨V,hV⟩:∃V:Nat→List UInt8,V=fun k=>PA.encI (tn:Int)++((td.take k).map fun f=>encR (gu f)).flatten:=⟨_,rfl⟩
  have hV0:([]:List UInt8)++PA.encI (tn:Int)=V 0:=by rw[hV];simp
  have Am:∀k x,td[k]?=some x→V (k+1)=V k++encR (gu x):=fun k x hx=>by
   rw[hV];simp only;rw[mV (fun f=>encR (gu f)) hx,List.append_assoc]
  have YC:V tn++encR (gQ cl)=E:=by rw[hV,hEn];simp only;rw[HX.out.2.2.2.2.2.2,List.take_length];rfl
  have Ak:∀k,(V k).length≤268435456:=fun k=>by
   rw[hV];simp only;have h1:=uF (fun f=>encR (gu f)) td k;have h2:=HLEN.out.1;unfold lX rO at h2;simp only[dD] at h2 ⊢;rw[HX.out.2.2.2.2.2.2];omega
  have hEl:E.length≤268435456:=by rw[hEn];exact HLEN.out.1
  have HVV:=ah (And.intro hV0 (And.intro Am (And.intro YC (And.intro Ak hEl))));clear hV hV0 Am YC Ak hEn hEl
  go_enter Tryz.func73,Tryz.ntmps73
  go_upto_region 1 with (fail)
  rw[←SG.out.1,←SG.out.2]
  go_wp2_with fail
  refine vg.out.mono ?_;rintro e w2 ⟨J,rfl,hle,h2⟩;have h3:=OD h2;obtain⟨P,hP⟩:=ay (w2.heap.size);obtain⟨w3,hw3⟩:=ay (w2.alloc (.cells #[.slice none 0 0] 104));rw[←hP,←hw3] at h3;have h4:Sat W w3 (sep (dM P []) (sep (kn J) (sep (blk B (.cells #[.slice ta tn tc,.slice ca cn cc] 30 (0,0))) A))):=h3;have hw:=iJ P [] (tn:Int) (by omega) (by omega) h4 (by simp);rw[HVV.out.1] at hw;have Jq:=ah hw;have HP:=ah (And.intro hP hw3);have ji:=ah hle;clear k0 k1;obtain⟨k0,k1,-,-⟩:=kG h4.p2;clear h2 h3 h4 hP hw3 hw vg hle
  go_upto_region 5 with (fail)
  rw[←HP.out.1,←HP.out.2]
  go_wp2_with fail
  refine Jq.out.mono ?_;rintro e w4 ⟨rfl,h5⟩;clear k0 k1;obtain⟨k0,k1,-,-⟩:=kG h5.p2;have H5:=ah h5;clear h5 Jq HP
  go_upto_block 0 with (fail)
  clear k0 k1
  go_wp2_with fail
  go_loopw [24] (fun iv wr=>∃(k:Nat) (J2:Mem),iv=.int .i64 k∧k≤tn∧Hid (Mem.le J J2)∧Sat W wr (sep (dM P (V k)) (sep (kn J2) (sep (blk B (.cells #[.slice ta tn tc,.slice ca cn cc] 30 (0,0))) A)))) (fun iv _=>tn-(intOf iv).toNat)
  case atStart=>exact⟨0,J,rfl,by omega,ah (Mem.le_refl _),H5.out⟩
  case round=>
   obtain⟨k,J2,rfl,hk,HJ,hS⟩:=hrel;clear H5
   by_cases hlt:k<tn
   ·as_aux_lemma=>
    have hltz:(k:Int)<(tn:Int):=by omega
    obtain⟨f,hf⟩:∃f,td[k]?=some f:=⟨_,List.getElem?_eq_getElem (by have:=HX.out.2.2.2.2.2.2;omega)⟩
    obtain⟨b,o,p,q,x1,n1,c1,x2,n2,c2,rfl,hrf,hcell⟩:=gU HX.out.1 hf;have hfm:=List.mem_of_getElem? hf;have N7:Mem.le I J2:=eH ji.out HJ.out;obtain⟨j0,j1,j2,j3⟩:=hcell wr (fun g u hb=>hS.p1.ext g u (N7 g u hb));have hvs:=HVV.out.2.1 k f hf;have hvl:=HVV.out.2.2.2.1 k;have hAl:=hS.alloc (.cells #[.int .i64 p,.int .i64 q,.slice x1 n1 c1,.slice x2 n2 c2] 34);obtain⟨M,hM⟩:=ay (wr.heap.size);obtain⟨w5,hw5⟩:=ay (wr.alloc (.cells #[.int .i64 p,.int .i64 q,.slice x1 n1 c1,.slice x2 n2 c2] 34));rw[←hM,←hw5] at hAl;obtain⟨k0,k1,k2,k3⟩:=kN hAl;have hfe:=pG f p q x1 n1 c1 x2 n2 c2 (rF.mono N7 hrf) (HX.out.2.2.1 f hfm) (HX.out.2.2.2.2.1 f hfm).b64 (show Sat W w5 (sep (kn J2) (sep (blk M (.cells #[.int .i64 p,.int .i64 q,.slice x1 n1 c1,.slice x2 n2 c2] 34 (0,0))) (sep (dM P (V k)) (sep (blk B (.cells #[.slice (some ⟨b,o,none⟩) tn tc,.slice ca cn cc] 30 (0,0))) A)))) by exact bT hAl);have hfl:=kD (HX.out.2.2.2.2.1 f hfm).bl;obtain⟨fv,hfv⟩:=ay (jY f);rw[←hfv] at hfe;have vT:=ah hfe;have GV:=ah (And.intro hM hw5);have HK:=ah (And.intro hlt (And.intro hvs (And.intro hvl hfl)));clear hrf hcell hfm hvs hvl hAl hM hw5 hfe hlt hk hS hf hfl hfv N7
    go_upto_region 9 with (fail)
    rw[←GV.out.1,←GV.out.2];clear j0 j1 j2 j3
    go_wp2_with fail
    refine vT.out.mono ?_;rintro e w6 ⟨fb,fl,fc,J3,rfl,hle3,Kr,h6⟩;clear k0 k1 k2 k3 vT;have h7:Sat W w6 (sep (dM P (V k)) (sep (kn J3) (sep (blk B (.cells #[.slice (some ⟨b,o,none⟩) tn tc,.slice ca cn cc] 30 (0,0))) A))):=by
     have h8:Sat W w6 (sep (blk M (.cells #[.int .i64 p,.int .i64 q,.slice x1 n1 c1,.slice x2 n2 c2] 34 (0,0))) (sep (dM P (V k)) (sep (kn J3) (sep (blk B (.cells #[.slice (some ⟨b,o,none⟩) tn tc,.slice ca cn cc] 30 (0,0))) A)))):=bT h6;exact h8.forget
    have hwr:=nD P (V k) (.slice fb fl fc) (gu f) h7 Kr (by have:=HK.out.2.2.1;omega) (by have:=HK.out.2.2.2;omega);rw[←HK.out.2.1] at hwr;have Jr:=ah hwr;have H3:=ah hle3;clear h6 h7 hle3 Kr hwr
    go_wp2_with fail
    refine Jr.out.mono ?_;rintro e w8 ⟨rfl,h9⟩;have H9:=ah h9;clear h9 Jr
    go_wp2
    go_roundw
    case rel=>exact⟨k+1,J3,by go_num,by have:=HK.out.1;omega,ah (eH HJ.out H3.out),H9.out⟩
    case measure=>simp[intOf];have:=HK.out.1;omega
   ·obtain rfl:k=tn:=by omega
    have N7:Mem.le I J2:=eH ji.out HJ.out;obtain⟨k0,k1,-,-⟩:=kG hS.p2;have hce:=vH ca cn cc cl ((kK.slice 5).mono N7 HX.out.2.1) HX.out.2.2.2.1 HX.out.2.2.2.2.2.1 HLEN.out.2 (show Sat W wr (sep (kn J2) (sep (dM P (V k)) (sep (blk B (.cells #[.slice ta k tc,.slice ca cn cc] 30 (0,0))) A))) from hS.p1);obtain⟨cv,hcv⟩:=ay (pR cl);rw[←hcv] at hce;have Ey:=ah hce;have HL:=ah (And.intro N7 (HVV.out.2.2.2.1 k));clear hS hlt hk hce hcv N7
    go_upto_region 12 with (fail)
    go_wp2_with fail
    refine Ey.out.mono ?_;rintro e w5 ⟨fb,fl,fc,J3,rfl,hle3,Kr,h6⟩;have hwr:=nD P (V k) (.slice fb fl fc) (gQ cl) (show Sat W w5 (sep (dM P (V k)) (sep (kn J3) (sep (blk B (.cells #[.slice ta k tc,.slice ca cn cc] 30 (0,0))) A))) from h6.p1) Kr (by have:=HL.out.2;omega) (by have:=jc HLEN.out.2;omega);rw[HVV.out.2.2.1] at hwr;have Jr:=ah hwr;have H3:=ah hle3;clear h6 hle3 Kr hwr Ey k0 k1
    go_wp2_with fail
    refine Jr.out.mono ?_;rintro e w6 ⟨rfl,h7⟩;have hdn:=oC P E h7 (by have:=HVV.out.2.2.2.2;omega);have HD:=ah hdn;clear h7 hdn Jr
    go_wp2_with fail
    refine HD.out.mono ?_;rintro e w7 ⟨a5,c5,rfl,h8⟩;have h9:Sat W w7 (sep (aT 5 1 a5 E.length c5 (E.map bv)) (sep (kn J3) (sep (blk B (.cells #[.slice ta k tc,.slice ca cn cc] 30 (0,0))) A))):=Eo (by simpa only[aF,aC,aj] using h8);obtain⟨J4,lQ,hr4,h10⟩:=iw h9 rfl;have HF:=ah (And.intro (eH HL.out.1 (eH H3.out lQ)) (And.intro hr4 h10.p1.drop));clear h8 h9 lQ hr4 h10 HD
    go_wp2
    rw[bK.out];exact⟨a5,E.length,c5,J4,rfl,HF.out.1,HF.out.2.1,HF.out.2.2⟩
 ·have GU:=ah (pq.out.1 hb0)
  have hb1:(rv !=0)=true:=by simpa using hb0
  have hb2:(rv==0)=false:=by simpa using hb0
  clear pq hb0
  go_enter Tryz.func73,Tryz.ntmps73
  go_upto_region 1 with (fail)
  rw[←SG.out.1,←SG.out.2]
  go_wp2_with fail
  refine vg.out.mono ?_;rintro e w2 ⟨J,rfl,hle,h2⟩;have HF:=ah (And.intro hle h2.p1.drop);clear h2 vg k0 k1 hle
  go_wp2
  rw[bK.out];exact⟨none,0,0,J,rfl,HF.out.1,by rw[GU.out];exact iZ J,HF.out.2⟩
end Go.Proofs.YthfmaclnccdcbaaGreatDoor

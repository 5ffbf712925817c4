/- Part of a proof. -/
import Derived.Test.YthfmaclnccdcbaaGreatDoorGActsOrder20
import Derived.Test.YthfmaclnccdcbaaGreatDoorGActsOrder19
import Derived.Test.YthfmaclnccdcbaaGreatDoorGActsOrder29
import Derived.Test.YthfmaclnccdcbaaGreatDoorGActsOrder39
namespace PA
open Go Go.RowKit
theorem FQ {l:List Fm} {j:Nat} {f:Fm} (h:l[j]?=some f):kS (l.drop j)=if jV f≠0 then jV f else kS (l.drop (j+1)):=by
 obtain⟨hj,rfl⟩:=List.getElem?_eq_some_iff.1 h;rw[List.drop_eq_getElem_cons hj,kS]
theorem yG {l:List Cl} {k:Nat} (h:fJ l k=none):∀n,k<n→jI l n=none
 | 0,h0=>absurd h0 (Nat.not_lt_zero _)
 | n+1,h0=>by
  unfold jI;rcases Nat.lt_succ_iff_lt_or_eq.1 h0 with h1|rfl
  ·rw[yG h n h1]
  ·rw[h];cases jI l k<;>rfl
theorem BD {l:List Cl} {n s:Nat} {y:List Fm} (h1:jI l n=some s) (h2:fJ l n=some y):jI l (n+1)=some (s+y.length):=by
 unfold jI;rw[h1,h2]
end PA
namespace Go.Proofs.YthfmaclnccdcbaaGreatDoor
open Go.RowKit PA
set_option maxHeartbeats 1000000 in
theorem Oz {W w:World} {A:aC} {I:Mem} (a:Option Addr) (n c:Nat) (l:List Cl) (hv:(kM.slice 5).rel I [.slice a n c] l) (hok:pR l=0) (hB:∀x∈l,x.body.size≤mg) (k:Nat) (hk:k<l.length) (h:Sat W w (sep (kn I) A)):
 Calls Tryz.prog 204 #[.slice a n c,.int .i64 (k:Nat)] w fun e w'=>∃(b:Option Addr) (m d:Nat) (J:Mem),e=.returned (.tuple #[.slice b m d,.int .i64 (if (fJ l k).isSome=true then 0 else 4)])∧Mem.le I J∧(∀y,fJ l k=some y→m=y.length∧(rF.slice 4).rel J [.slice b m d] y)∧Sat W w' (sep (kn J) A):=by
 have hn:=(aI hv).1;have hn63:=(aI hv).2.2;have hvs:∀w' A',Sat W w' (sep (kn I) A')→Calls Tryz.prog 140 #[.slice a n c] w' fun e w''=>e=.returned (.int .i64 0)∧Sat W w'' (sep (kn I) A'):=fun w' A' h'=>by
  have:=kZ a n c l hv hB h';rw[hok] at this;exact this
 have hcs:∀w' A',Sat W w' (sep (kn I) A')→Calls Tryz.prog 220 #[.slice a n c,.int .i64 (k:Nat)] w' fun e w''=>e=.returned (.int .i64 0)∧Sat W w'' (sep (kn I) A'):=fun w' A' h'=>by
  have HV:=ah (hvs w' A' h');have hkz:(k:Int)<(n:Int):=by omega
  have hk0:¬(k:Int)<0:=by omega
  clear hvs h' hv hB hok hn hk
  go_enter Tryz.func220,Tryz.ntmps220
  go_wp2_with fail
  refine HV.out.mono ?_;rintro e w2 ⟨rfl,h2⟩;have H2:=ah h2;clear h2 HV
  go_wp2
  go_ret
  exact⟨rfl,H2.out⟩
 have nD:=ah (hcs w A h);have su:=ah (fun w' (h':Sat W w' (sep (kn I) A))=>IB a n c l hv hok k hk w' A I (Mem.le_refl _) h');obtain⟨av,hav⟩:=aB (fJ l k);rw[←hav] at su ⊢;obtain⟨Po,dU⟩:∃P:Ending→World→Prop,P=fun e w'=>∃(b:Option Addr) (m d:Nat) (J:Mem),e=.returned (.tuple #[.slice b m d,.int .i64 (if av.isSome=true then 0 else 4)])∧Mem.le I J∧(∀y,av=some y→m=y.length∧(rF.slice 4).rel J [.slice b m d] y)∧Sat W w' (sep (kn J) A):=⟨_,rfl⟩
 rw[←dU];have bI:=ah dU;clear hvs hcs h hv hB hok hn hk hav dU
 go_enter Tryz.func204,Tryz.ntmps204
 go_wp2_with fail
 refine nD.out.mono ?_;rintro e w2 ⟨rfl,h2⟩;have H2:=ah h2;clear h2 nD
 go_wp2_with fail
 refine (su.out _ H2.out).mono ?_;rintro e w3 ⟨b,m,d,J,rfl,hle,hres,h3⟩;have H3:=ah (And.intro hle (And.intro hres h3));clear hle hres h3 H2 su;cases av with
 | none=>
  go_wp2
  rw[bI.out];exact⟨none,0,0,J,rfl,H3.out.1,fun y hy=>(by cases hy),H3.out.2.2⟩
 | some y=>
  go_wp2
  rw[bI.out];exact⟨b,m,d,J,rfl,H3.out.1,H3.out.2.1,H3.out.2.2⟩
set_option maxRecDepth 100000 in
set_option maxHeartbeats 8000000 in
theorem xZ {W w:World} {A:aC} {I:Mem} (ta:Option Addr) (tn tc:Nat) (ca:Option Addr) (cn cc:Nat) (td:List Fm) (cl:List Cl) (ht:(rF.slice 4).rel I [.slice ta tn tc] td) (hc:(kM.slice 5).rel I [.slice ca cn cc] cl) (hT:∀f∈td,f.size≤mg) (hB:∀x∈cl,x.body.size≤mg) (h:Sat W w (sep (kn I) A)):
 Calls Tryz.prog 177 #[.agg #[.slice ta tn tc,.slice ca cn cc]] w fun e w'=>∃v J,e=.returned (.tuple #[v,.int .i64 (ED td cl)])∧Mem.le I J∧Sat W w' (sep (kn J) A):=by
 have htn:=(aI ht).1;have ZI:=(aI ht).2.2;have hcn:=(aI hc).1;have hc63:=(aI hc).2.2;have h1:=h.alloc (.cells #[.slice ta tn tc,.slice ca cn cc] 30);obtain⟨B,hBb⟩:=aB (w.heap.size);obtain⟨w1,hw1⟩:=aB (w.alloc (.cells #[.slice ta tn tc,.slice ca cn cc] 30));rw[←hBb,←hw1] at h1;have HB:=ah (And.intro hBb hw1);have H1:=ah h1;obtain⟨k0,k1,-,-⟩:=kG h1;obtain⟨rv,dK⟩:=aB (ED td cl);rw[←dK];obtain⟨Po,dU⟩:∃P:Ending→World→Prop,P=fun e w'=>∃v J,e=.returned (.tuple #[v,.int .i64 rv])∧Mem.le I J∧Sat W w' (sep (kn J) A):=⟨_,rfl⟩
 rw[←dU];have bI:=ah dU;clear dU;have bM:Hid (rv=if 16<tn then 4 else if kS td≠0 then kS td else if pR cl≠0 then pR cl else match jI cl cl.length with|none=>4|some s=>if 128<(Fm.aW td).length+s then 4 else 0):=ah (by rw[dK,htn];rfl);have HX:=ah (And.intro ht (And.intro hc (And.intro htn hcn)));have HXB:=ah (And.intro hT hB);clear ht hc hT hB h htn hcn h1 hBb hw1 dK
 by_cases U1:16<tn
 ·have U2:(16:Int)<(tn:Int):=by omega
  have HF:Hid (rv=4):=ah (by rw[bM.out,if_pos U1]);clear U1
  go_enter Tryz.func177,Tryz.ntmps177
  go_upto_region 1 with (fail)
  rw[←HB.out.1,←HB.out.2]
  go_wp2
  rw[bI.out];exact⟨_,I,by rw[HF.out];rfl,Mem.le_refl _,H1.out.drop⟩
 ·have U2:¬(16:Int)<(tn:Int):=by omega
  have HR1:Hid (rv=if kS td≠0 then kS td else if pR cl≠0 then pR cl else match jI cl cl.length with|none=>4|some s=>if 128<(Fm.aW td).length+s then 4 else 0):=ah (by rw[bM.out,if_neg U1]);have aaS:=ah U1;have abV:(tn:Int)≤16:=by omega
  clear U1 bM
  go_enter Tryz.func177,Tryz.ntmps177
  go_upto_region 1 with (fail)
  rw[←HB.out.1,←HB.out.2]
  go_upto_region 4 with (fail)
  clear k0 k1 U2
  go_wp2_with fail
  go_loopw [4,5] (fun ov iv wr=>∃(j m d:Nat) (bO:Option Addr) (vs:List Value) (J:Mem),ov=.slice bO m d∧iv=.int .i64 j∧j≤tn∧m≤j*96∧Hid (m=(Fm.aW (td.take j)).length∧Mem.le I J∧(rF.rows 4).rel J vs (Fm.aW (td.take j))∧kS td=kS (td.drop j))∧Sat W wr (sep (aT 34 4 bO m d vs) (sep (kn J) (sep (blk B (.cells #[.slice ta tn tc,.slice ca cn cc] 30 (0,0))) A)))) (fun _ iv _=>tn-(intOf iv).toNat)
  case atStart=>exact⟨0,0,0,none,[],I,rfl,rfl,by omega,by omega,ah ⟨rfl,Mem.le_refl _,kV _ _ _,rfl⟩,(H1.out.p1).gq 34 4⟩
  case round=>
   obtain⟨j,m,d,bO,vs,J,rfl,rfl,hj,hm,HV,hS⟩:=hrel;obtain⟨k0,k1,-,-⟩:=kG hS.p2
   by_cases hlt:j<tn
   ·as_aux_lemma=>
    have hltz:(j:Int)<(tn:Int):=by omega
    obtain⟨f,hf⟩:∃f,td[j]?=some f:=⟨_,List.getElem?_eq_getElem (by have:=HX.out.2.2.1;omega)⟩
    obtain⟨b,o,p,q,x1,n1,c1,x2,n2,c2,rfl,hrf,hcell⟩:=gV HX.out.1 hf;have EI:=ah (fun w' (he:Ext J w')=>hcell w' (fun i o hb=>he i o (HV.out.2.1 i o hb)));obtain⟨j0,j1,j2,j3⟩:=EI.out wr hS.p1.ext;have hfs:=HXB.out.1 f (List.mem_of_getElem? hf);have sG:=ah (jB f p q x1 n1 c1 x2 n2 c2 (rF.mono HV.out.2.1 hrf) hfs hS.p1);have HPT:=ah (fun w' A' (h':Sat W w' (sep (kn J) A'))=>Fb f w' A' J p q x1 n1 c1 x2 n2 c2 (rF.mono HV.out.2.1 hrf) hfs h');obtain⟨fe,hfe⟩:=aB (jV f);have hdr:=HV.out.2.2.2.trans (FQ hf);rw[←hfe] at sG hdr;have HDR:=ah hdr;have XC:=ah (And.intro hf (And.intro hfe (And.intro hlt hm)));have abN:(m:Int)≤1536:=by omega
    clear hrf hcell hfs hfe hdr hf hlt hj hm hS H1
    go_upto_region 7 with (fail)
    go_wp2_with fail
    refine sG.out.mono ?_;rintro e w2 ⟨rfl,h2⟩;clear j0 j1 j2 j3 k0 k1 sG;have H2:=ah (show Sat W w2 (sep (aT 34 4 bO m d vs) (sep (kn J) (sep (blk B (.cells #[.slice (some ⟨b,o,none⟩) tn tc,.slice ca cn cc] 30 (0,0))) A))) from h2.p1);clear h2
    by_cases he0:fe=0
    ·subst he0
     obtain⟨k0,k1,-,-⟩:=kG H2.out.p2;obtain⟨j0,j1,j2,j3⟩:=EI.out w2 H2.out.p1.ext;have YX:Hid (kS td=kS (td.drop (j+1))):=ah (by rw[HDR.out];simp);have hsf:=lq XC.out.2.1.symm;have htl:=Fm.yj f;have HTL:Hid (f.dL.length≤96):=ah (by omega);clear hsf htl HDR
     go_upto_region 10 with (fail)
     go_wp2_with fail
     refine (HPT.out _ _ H2.out.p1).mono ?_;rintro e w3 ⟨a3,n3,c3,J3,rfl,hn3,hle3,hr3,h3⟩;obtain⟨us,yB,hu0,hu1,hur,jy⟩:=kY hr3;have HU:=ah (And.intro yB (And.intro hu0 (And.intro hu1 (And.intro hur (jy w3 h3.ext)))));have HN:=ah (And.intro hn3 hle3);have H3:=ah (show Sat W w3 (sep (aT 34 4 bO m d vs) (sep (kn J3) (sep (blk B (.cells #[.slice (some ⟨b,o,none⟩) tn tc,.slice ca cn cc] 30 (0,0))) A))) from h3.p1);have hmn:m+n3≤1632:=by have:=HTL.out;omega
     have RN:=ah hmn;clear h3 yB hu0 hu1 hur jy hn3 hle3 hr3 HPT j0 j1 j2 j3 k0 k1 H2 hmn
     go_wp2_with (at_builtin;go_loud (refine aJ rfl _ _ 27 rfl 34 4 64 _ Tryz.underlying27 iF rfl rfl H3.out rfl us HU.out.1 HU.out.2.1 HU.out.2.2.2.2 HU.out.2.2.1 (by have:=RN.out;omega) (by unfold maxLen;have:=RN.out;omega) ?_))
     intro a4 c4 w4 h4;have H4:=ah h4;clear h4 H3
     go_wp2
     go_roundw
     case rel=>
      have htk:=Fm.yt td j XC.out.1;refine⟨j+1,m+n3,c4,a4,vs++us,J3,rfl,by go_num,by have:=XC.out.2.2.1;omega,by have:=XC.out.2.2.2;have:=HTL.out;have:=HN.out.1;rw[Nat.add_mul];omega,ah ⟨by rw[htk,dF,←HV.out.1,←HN.out.1],eG HV.out.2.1 HN.out.2,by rw[htk];exact gG ((rF.rows 4).mono HN.out.2 HV.out.2.2.1) HU.out.2.2.2.1,YX.out⟩,H4.out⟩
     case measure=>simp[intOf];have:=XC.out.2.2.1;omega
    ·have he1:(fe !=0)=true:=by simpa using he0
     have he2:(fe==0)=false:=by simpa using he0
     have HF:Hid (rv=fe):=ah (by rw[HR1.out,HDR.out];simp[he0]);have HF2:=ah (H2.out.dW.p1.drop);clear he0 H2
     go_wp2
     rw[bI.out];exact⟨_,J,by rw[HF.out];rfl,HV.out.2.1,HF2.out⟩
   ·obtain rfl:j=tn:=by omega
    as_aux_lemma=>
    obtain⟨hv1,hv2,hv3,hv4⟩:=HV.out;rw[List.drop_of_length_le (by have:=HX.out.2.2.1;omega)] at hv4;rw[List.take_of_length_le (by have:=HX.out.2.2.1;omega)] at hv1 hv3;have HR2:Hid (rv=if pR cl≠0 then pR cl else match jI cl cl.length with|none=>4|some s=>if 128<(Fm.aW td).length+s then 4 else 0):=ah (by rw[HR1.out,hv4];rfl);have lW:=ah (And.intro hv1 (And.intro hv2 hv3));have hcJ:=(kM.slice 5).mono hv2 HX.out.2.1;have Zf:=ah (kZ ca cn cc cl hcJ HXB.out.2 hS.p1);obtain⟨ce,hce⟩:=aB (pR cl);rw[←hce] at Zf;have EI:=ah hce;have hmB:(m:Int)≤1536:=by omega
    have XH:=ah hm;clear hv1 hv2 hv3 hv4 hcJ hce hS hj hlt hm HR1 H1
    go_upto_region 11 with (fail)
    go_wp2_with fail
    refine Zf.out.mono ?_;rintro e w2 ⟨rfl,h2⟩;clear k0 k1 Zf;have H2:=ah (show Sat W w2 (sep (aT 34 4 bO m d vs) (sep (kn J) (sep (blk B (.cells #[.slice ta j tc,.slice ca cn cc] 30 (0,0))) A))) from h2.p1);clear h2
    by_cases he0:ce=0
    ·subst he0
     have HR3:Hid (rv=match jI cl cl.length with|none=>4|some s=>if 128<(Fm.aW td).length+s then 4 else 0):=ah (by rw[HR2.out,←EI.out];rfl);have hc32:=(sV EI.out.symm).1;have adN:(cn:Int)≤32:=by have:=HX.out.2.2.2;omega
     clear hc32 HR2
     go_upto_region 14 with (fail)
     go_wp2_with fail
     go_loopw [4,8] (fun ov iv wr=>∃(i m2 d2 s:Nat) (b2:Option Addr) (vs2:List Value) (J2:Mem),ov=.slice b2 m2 d2∧iv=.int .i64 i∧i≤cn∧m2≤1536+i*64∧Hid (jI cl i=some s∧m2=m+s∧Mem.le J J2)∧Sat W wr (sep (aT 34 4 b2 m2 d2 vs2) (sep (kn J2) (sep (blk B (.cells #[.slice ta j tc,.slice ca cn cc] 30 (0,0))) A)))) (fun _ iv _=>cn-(intOf iv).toNat)
     case atStart=>exact⟨0,m,d,0,bO,vs,J,rfl,rfl,by omega,by have:=XH.out;omega,ah ⟨rfl,rfl,Mem.le_refl _⟩,H2.out⟩
     case round=>
      obtain⟨i,m2,d2,s,b2,vs2,J2,rfl,rfl,hi,hm2,rP,hS2⟩:=hrel;obtain⟨k0,k1,-,-⟩:=kG hS2.p2
      by_cases hlt2:i<cn
      ·have Ud:(i:Int)<(cn:Int):=by omega
       have su:=ah (Oz ca cn cc cl ((kM.slice 5).mono (eG lW.out.2.1 rP.out.2.2) HX.out.2.1) EI.out.symm HXB.out.2 i (by have:=HX.out.2.2.2;omega) hS2.p1);obtain⟨av,hav⟩:=aB (fJ cl i);rw[←hav] at su;have EH:=ah (And.intro hav (And.intro hlt2 hm2));have adZ:(m2:Int)≤3584:=by omega
       clear hav hS2 hlt2 hi hm2 H2
       go_upto_region 17 with (fail)
       go_wp2_with fail
       refine su.out.mono ?_;rintro e w3 ⟨a3,n3,c3,J3,rfl,hle3,hres,h3⟩;clear k0 k1 su;have H3:=ah (show Sat W w3 (sep (aT 34 4 b2 m2 d2 vs2) (sep (kn J3) (sep (blk B (.cells #[.slice ta j tc,.slice ca cn cc] 30 (0,0))) A))) from h3.p1);have Y4:=ah hle3;cases av with
       | none=>
        have HF:Hid (rv=4):=ah (by rw[HR3.out,yG EH.out.1.symm cl.length (by have:=HX.out.2.2.2;have:=EH.out.2.1;omega)]);have HF2:=ah (H3.out.dW.p1.drop);clear h3 hle3 hres H3
        go_wp2
        rw[bI.out];exact⟨_,J3,by rw[HF.out];rfl,eG (eG lW.out.2.1 rP.out.2.2) Y4.out,HF2.out⟩
       | some y=>
        obtain⟨hn3,hr3⟩:=hres y rfl;obtain⟨us,yB,hu0,hu1,hur,jy⟩:=kY hr3;have HU:=ah (And.intro yB (And.intro hu0 (And.intro hu1 (jy w3 h3.ext))));have ZP:=xC EH.out.1.symm;have HN:=ah (And.intro hn3 (show n3≤64 by omega));have hmn:m2+n3≤3700:=by omega
        have RN:=ah hmn;clear h3 hle3 hres yB hu0 hu1 hur jy hn3 hr3 ZP hmn
        go_wp2_with (at_builtin;go_loud (refine aJ rfl _ _ 27 rfl 34 4 64 _ Tryz.underlying27 iF rfl rfl H3.out rfl us HU.out.1 HU.out.2.1 HU.out.2.2.2 HU.out.2.2.1 (by have:=RN.out;omega) (by unfold maxLen;have:=RN.out;omega) ?_))
        intro a4 c4 w4 h4;have H4:=ah h4;clear h4 H3
        go_wp2
        go_roundw
        case rel=>exact⟨i+1,m2+n3,c4,s+y.length,a4,vs2++us,J3,rfl,by go_num,by have:=EH.out.2.1;omega,by have:=EH.out.2.2;have:=HN.out.2;rw[Nat.add_mul];omega,ah ⟨BD rP.out.1 EH.out.1.symm,by rw[rP.out.2.1,HN.out.1];omega,eG rP.out.2.2 Y4.out⟩,H4.out⟩
        case measure=>simp[intOf];have:=EH.out.2.1;omega
      ·obtain rfl:i=cn:=by omega
       have HR4:Hid (rv=if 128<m2 then 4 else 0):=ah (by
        have h1:=rP.out.1;rw[HX.out.2.2.2] at h1;rw[HR3.out,h1];show (if 128<(Fm.aW td).length+s then (4:Int) else 0)=_;rw[←lW.out.1,←rP.out.2.1])
       have HF2:=ah (hS2.dW.p1.drop)
       by_cases Ja:128<m2
       ·have U0:(128:Int)<(m2:Int):=by omega
        have HF:Hid (rv=4):=ah (by rw[HR4.out,if_pos Ja]);clear Ja hS2 H2
        go_wp2
        rw[bI.out];exact⟨_,J2,by (rw[HF.out];try rfl),eG lW.out.2.1 rP.out.2.2,HF2.out⟩
       ·have U0:¬(128:Int)<(m2:Int):=by omega
        have HF:Hid (rv=0):=ah (by rw[HR4.out,if_neg Ja]);clear Ja hS2 H2
        go_wp2
        rw[bI.out];exact⟨_,J2,by (rw[HF.out];try rfl),eG lW.out.2.1 rP.out.2.2,HF2.out⟩
    ·have he1:(ce !=0)=true:=by simpa using he0
     have he2:(ce==0)=false:=by simpa using he0
     have HF:Hid (rv=ce):=ah (by rw[HR2.out,←EI.out];simp[he0]);have HF2:=ah (H2.out.dW.p1.drop);clear he0 H2
     go_wp2
     rw[bI.out];exact⟨_,J,by (rw[HF.out];try rfl),lW.out.2.1,HF2.out⟩
theorem vU {W w:World} {A:aC} {I:Mem} (ta:Option Addr) (tn tc:Nat) (ca:Option Addr) (cn cc:Nat) (td:List Fm) (cl:List Cl) (ht:(rF.slice 4).rel I [.slice ta tn tc] td) (hc:(kM.slice 5).rel I [.slice ca cn cc] cl) (hT:∀f∈td,f.size≤mg) (hB:∀x∈cl,x.body.size≤mg) (h:Sat W w (sep (kn I) A)):
 Calls Tryz.prog 138 #[.agg #[.slice ta tn tc,.slice ca cn cc]] w fun e w'=>∃J,e=.returned (.int .i64 (ED td cl))∧Mem.le I J∧Sat W w' (sep (kn J) A):=by
 have h1:=h.alloc (.cells #[.slice ta tn tc,.slice ca cn cc] 30);obtain⟨B,hBb⟩:=aB (w.heap.size);obtain⟨w1,hw1⟩:=aB (w.alloc (.cells #[.slice ta tn tc,.slice ca cn cc] 30));rw[←hBb,←hw1] at h1;have HB:=ah (And.intro hBb hw1);obtain⟨k0,k1,-,-⟩:=kG h1;have HD:=ah (xZ ta tn tc ca cn cc td cl ht hc hT hB h1.p1);obtain⟨rv,dK⟩:=aB (ED td cl);rw[←dK] at HD ⊢;clear ht hc hT hB h h1 hBb hw1 dK
 go_enter Tryz.func138,Tryz.ntmps138
 go_upto_region 1 with (fail)
 rw[←HB.out.1,←HB.out.2]
 go_wp2_with fail
 refine HD.out.mono ?_;rintro e w2 ⟨v,J,rfl,hle,h2⟩;have H2:=ah (And.intro hle h2.p1.drop);clear hle h2 HD k0 k1
 go_wp2
 go_ret
 exact⟨J,rfl,H2.out.1,H2.out.2⟩
end Go.Proofs.YthfmaclnccdcbaaGreatDoor
namespace Go.Proofs.YthfmaclnccdcbaaGreatDoor
open Go.RowKit PA
attribute [local go_sem ↓] iq
attribute [local go_sem] BL
def RX (W:World) (I:Mem) (ys:List Fm) (A:aC) (e:Ending) (w':World):Prop:=
 ∃(a:Option Addr) (n c:Nat) (vs:List Value) (J:Mem),e=.returned (.slice a n c)∧n=ys.length∧Mem.le I J∧(rF.rows 4).rel J vs ys∧Sat W w' (sep (aT 34 4 a n c vs) (sep (kn J) A))
def RY (W:World) (l:List Fm):Prop:=
 ∀(w:World) (A:aC) (I:Mem) (a:Option Addr) (n c:Nat),(rF.slice 4).rel I [.slice a n c] l→Fm.sizes l≤o7→Sat W w (sep (kn I) A)→Calls Tryz.prog 200 #[.slice a n c] w (RX W I (Fm.aW l) A)
set_option maxRecDepth 100000 in
set_option maxHeartbeats 8000000 in
theorem zK {W:World} (l:List Fm) (ih:∀f∈l,RY W f.kids):RY W l:=by
 intro w A I a n c hv hsz h;have hn:=(aI hv).1;have hn63:=(aI hv).2.2;obtain⟨Po,dU⟩:=aB (RX W I (Fm.aW l) A);rw[←dU];have bI:=ah dU;have HX:=ah (And.intro hv (And.intro hsz (And.intro hn ih)));have H1:=ah h;clear hv hsz h hn dU ih
 go_enter Tryz.func200,Tryz.ntmps200
 go_wp2_with fail
 go_loopw [3,8] (fun ov iv wr=>∃(j m d:Nat) (b:Option Addr) (vs:List Value) (J:Mem),ov=.slice b m d∧iv=.int .i64 j∧j≤n∧m≤1000000∧Hid (m=(Fm.aW (l.take j)).length∧Mem.le I J∧(rF.rows 4).rel J vs (Fm.aW (l.take j)))∧Sat W wr (sep (aT 34 4 b m d vs) (sep (kn J) A))) (fun _ iv _=>n-(intOf iv).toNat)
 case atStart=>exact⟨0,0,0,none,[],I,rfl,rfl,by omega,by omega,ah ⟨by simp[Fm.aW],Mem.le_refl _,by simp only[List.take_zero,Fm.aW];exact kV _ _ _⟩,H1.out.gq 34 4⟩
 case round=>
  obtain⟨j,m,d,b,vs,J,rfl,rfl,hj,Zz,HV,hS⟩:=hrel
  by_cases hlt:j<n
  ·as_aux_lemma=>
   have hltz:(j:Int)<(n:Int):=by omega
   obtain⟨g,hg⟩:∃g,l[j]?=some g:=⟨_,List.getElem?_eq_getElem (by have:=HX.out.2.2.1;omega)⟩
   obtain⟨b2,o2,p',q',y1,m1,d1,y2,m2,d2,rfl,hgr,hcell⟩:=gV HX.out.1 hg;have hmem:g∈l:=List.mem_of_getElem? hg;have Vz:=rF.mono HV.out.2.1 hgr;obtain⟨j0,j1,j2,j3⟩:=hcell wr (fun i o hb=>hS.p1.ext i o (HV.out.2.1 i o hb));have htk:=Fm.yt l j hg;have hgs:=Fm.kW hmem;have JX:(Fm.aW (l.take (j+1))).length≤1000000:=by have h1:=Fm.qE (l.take (j+1));have h2:=Fm.qx l (j+1);have h3:=HX.out.2.1;unfold o7 at h3;omega
   have ihg:=HX.out.2.2.2 g hmem;obtain⟨o',n',i',k'⟩:=g;obtain⟨x1',c1',x2',c2',e,hi',hk'⟩:=dR.1 Vz;simp only[List.cons.injEq,Value.int.injEq,Value.slice.injEq,true_and,and_true] at e;obtain⟨rfl,rfl,⟨rfl,rfl,rfl⟩,⟨rfl,rfl,rfl⟩⟩:=e;have hAl:=hS.alloc (.cells #[.int .i64 p',.int .i64 q',.slice y1 i'.length d1,.slice y2 k'.length d2] 34);obtain⟨ni,hni⟩:=aB (i'.length);obtain⟨nk,hnk⟩:=aB (k'.length);obtain⟨f0,hf0⟩:=aB (Fm.mk p' q' i' k');have hsk:Fm.sizes k'≤o7:=by
    have h3:=HX.out.2.1;rw[Fm.size] at hgs;omega
   rw[←hni,←hnk] at hAl Vz;rw[←hni] at j2;rw[←hnk] at j3 hk';have hrec:∀w' A',Sat W w' (sep (kn J) A')→Calls Tryz.prog 200 #[.slice y2 nk d2] w' (RX W J (Fm.aW k') A'):=fun w' A' h'=>ihg w' A' J y2 nk d2 hk' hsk h'
   obtain⟨GA,TY⟩:=aB (wr.heap.size);obtain⟨w4,hw4⟩:=aB (wr.alloc (.cells #[.int .i64 p',.int .i64 q',.slice y1 ni d1,.slice y2 nk d2] 34));rw[←TY,←hw4] at hAl;obtain⟨k0,k1,k2,k3⟩:=kR hAl;have su:Hid (Sat W w4 (sep (aT 34 4 b m d vs) (sep (kn J) (sep (blk GA (.cells #[.int .i64 p',.int .i64 q',.slice y1 ni d1,.slice y2 nk d2] 34 (0,0))) A)))):=ah (dJ hAl);have U9:=ah (And.intro TY hw4);have O5:=ah hrec;have HT:=ah (And.intro htk (And.intro JX (And.intro hlt Vz)));clear hgr hcell hmem Vz htk hgs hrec hS hlt hj JX H1 hg hAl TY hw4 hi' hk' hsk hni hnk hf0 ihg
   by_cases o5:p'=5
   ·subst o5
    have Bh:Hid ((Fm.mk 5 q' i' k').dL=Fm.aW k'):=ah (by rw[Fm.dL,if_pos rfl])
    go_upto_region 5 with (fail)
    rw[←U9.out.1,←U9.out.2];clear j0 j1 j2 j3
    go_wp2_with fail
    refine (O5.out _ _ su.out.p1).mono ?_;rintro e w2 ⟨a3,n3,c3,vs3,J2,rfl,hn3,hle2,hr2,h20⟩;obtain⟨J3,YD,hr3,h2⟩:=je hr2 hn3 h20;have hle3:=eG hle2 YD;obtain⟨us,yB,hu0,hu1,hur,jy⟩:=kY hr3;have hmn:m+n3≤1000000:=by have:=HT.out.2.1;rw[HT.out.1,dF,←HV.out.1,Bh.out,←hn3] at this;exact this
    have HU:=ah (And.intro yB (And.intro hu0 (And.intro hu1 (And.intro hur (jy w2 h2.ext)))));have HN:=ah (And.intro hmn (And.intro hn3 hle3));have H2:Hid (Sat W w2 (sep (aT 34 4 b m d vs) (sep (kn J3) A))):=ah (by
     have h3:Sat W w2 (sep (blk GA (.cells #[.int .i64 5,.int .i64 q',.slice y1 ni d1,.slice y2 nk d2] 34 (0,0))) (sep (aT 34 4 b m d vs) (sep (kn J3) A))):=dJ h2;exact h3.forget)
    clear h2 h20 yB hu0 hu1 hur jy hmn hn3 hle3 hle2 YD hr3 hr2 O5 k0 k1 k2 k3
    go_wp2_with (at_builtin;go_loud (refine aJ rfl _ _ 27 rfl 34 4 64 _ Tryz.underlying27 iF rfl rfl H2.out rfl us HU.out.1 HU.out.2.1 HU.out.2.2.2.2 HU.out.2.2.1 (by have:=HN.out.1;omega) (by unfold maxLen;have:=HN.out.1;omega) ?_))
    intro a4 c4 w5 h4;have H4:=ah h4;clear h4 H2
    go_wp2
    go_roundw
    case rel=>exact⟨j+1,m+n3,c4,a4,vs++us,J3,rfl,by go_num,by have:=HT.out.2.2.1;omega,HN.out.1,ah ⟨by rw[HT.out.1,dF,←HV.out.1,Bh.out,←HN.out.2.1],eG HV.out.2.1 HN.out.2.2,by rw[HT.out.1,Bh.out];exact gG ((rF.rows 4).mono HN.out.2.2 HV.out.2.2) HU.out.2.2.2.1⟩,H4.out⟩
    case measure=>simp[intOf];have:=HT.out.2.2.1;omega
   ·have Bh:Hid ((Fm.mk p' q' i' k').dL=[Fm.mk p' q' i' k']):=ah (by rw[Fm.dL,if_neg o5])
    have o5':(p'==5)=false:=by simpa using o5
    have hmn:m+1≤1000000:=by have:=HT.out.2.1;rw[HT.out.1,dF,←HV.out.1,Bh.out] at this;exact this
    have jX:=ah (iP w4 [.int .i64 p',.int .i64 q',.slice y1 ni d1,.slice y2 nk d2] 34);have HA2:Hid (Sat W (w4.alloc (.cells #[.int .i64 p',.int .i64 q',.slice y1 ni d1,.slice y2 nk d2] 34)) (sep (aT 34 4 b m d vs) (sep (kn J) A))):=ah (by
     have h3:=su.out.gQ (.cells #[.int .i64 p',.int .i64 q',.slice y1 ni d1,.slice y2 nk d2] 34);have h5:Sat W (w4.alloc (.cells #[.int .i64 p',.int .i64 q',.slice y1 ni d1,.slice y2 nk d2] 34)) (sep (blk GA (.cells #[.int .i64 p',.int .i64 q',.slice y1 ni d1,.slice y2 nk d2] 34 (0,0))) (sep (aT 34 4 b m d vs) (sep (kn J) A))):=dJ h3;exact h5.forget)
    have RN:=ah hmn;clear o5 hmn
    go_upto_region 5 with (fail)
    rw[←U9.out.1,←U9.out.2];clear j0 j1 j2 j3
    go_wp2_with (at_builtin;refine aJ rfl _ _ 27 rfl 34 4 64 _ Tryz.underlying27 iF rfl rfl HA2.out rfl [.int .i64 p',.int .i64 q',.slice y1 ni d1,.slice y2 nk d2] rfl (by simp) (by intro b' hb;cases hb;exact jX.out) (yg HT.out.2.2.2) (by have:=RN.out;omega) (by unfold maxLen;have:=RN.out;omega) ?_)
    intro a4 c4 w5 h4;have H4:=ah h4;clear h4 HA2 jX k0 k1 k2 k3
    go_wp2
    go_roundw
    case rel=>exact⟨j+1,m+1,c4,a4,_,J,rfl,by go_num,by have:=HT.out.2.2.1;omega,RN.out,ah ⟨by rw[HT.out.1,dF,←HV.out.1,Bh.out];rfl,HV.out.2.1,by rw[HT.out.1,Bh.out];exact gG HV.out.2.2 (ig HT.out.2.2.2 rfl)⟩,H4.out⟩
    case measure=>simp[intOf];have:=HT.out.2.2.1;omega
  ·obtain rfl:j=n:=by omega
   obtain⟨hv1,hv2,hv3⟩:=HV.out;rw[List.take_of_length_le (by have:=HX.out.2.2.1;omega)] at hv1 hv3;have HF:=ah (And.intro hv1 (And.intro hv2 (And.intro hv3 hS)));clear hS hv1 hv2 hv3 H1
   go_wp2
   rw[bI.out];exact⟨b,m,d,vs,J,rfl,HF.out.1,HF.out.2.1,HF.out.2.2.1,HF.out.2.2.2⟩
theorem JH {W:World} (f:Fm):RY W f.kids:=
 Fm.ind (P:=fun f=>RY W f.kids) (fun _ _ _ k ih=>zK k ih) f
theorem JI {W:World} (l:List Fm):RY W l:=zK l fun f _=>JH f
set_option maxRecDepth 100000 in
set_option maxHeartbeats 8000000 in
theorem Ap {W w:World} {A:aC} {I:Mem} (ta:Option Addr) (tn tc:Nat) (ca:Option Addr) (cn cc:Nat) (td:List Fm) (cl:List Cl) (ht:(rF.slice 4).rel I [.slice ta tn tc] td) (hc:(kM.slice 5).rel I [.slice ca cn cc] cl) (hT:∀f∈td,Jk f) (hB:∀x∈cl,Jk x.body) (h:Sat W w (sep (kn I) A)):
 Calls Tryz.prog 171 #[.agg #[.slice ta tn tc,.slice ca cn cc]] w fun e w'=>∃v J,e=.returned (.tuple #[v,.int .i64 (ED td cl)])∧Mem.le I J∧Sat W w' (sep (kn J) A):=by
 have htn:=(aI ht).1;have ZI:=(aI ht).2.2;have hcn:=(aI hc).1;have hc63:=(aI hc).2.2;have h1:=h.alloc (.cells #[.slice ta tn tc,.slice ca cn cc] 30);obtain⟨B,hBb⟩:=aB (w.heap.size);obtain⟨w1,hw1⟩:=aB (w.alloc (.cells #[.slice ta tn tc,.slice ca cn cc] 30));rw[←hBb,←hw1] at h1;have HB:=ah (And.intro hBb hw1);have H1:=ah h1;obtain⟨k0,k1,-,-⟩:=kG h1;obtain⟨rv,dK⟩:=aB (ED td cl);rw[←dK];obtain⟨Po,dU⟩:∃P:Ending→World→Prop,P=fun e w'=>∃v J,e=.returned (.tuple #[v,.int .i64 rv])∧Mem.le I J∧Sat W w' (sep (kn J) A):=⟨_,rfl⟩
 rw[←dU];have bI:=ah dU;clear dU;have bM:Hid (rv=if 16<tn then 4 else if kS td≠0 then kS td else if pR cl≠0 then pR cl else match jI cl cl.length with|none=>4|some s=>if 128<(Fm.aW td).length+s then 4 else 0):=ah (by rw[dK,htn];rfl);have HX:=ah (And.intro ht (And.intro hc (And.intro htn hcn)));have HXB:=ah (And.intro hT hB);clear ht hc hT hB h htn hcn h1 hBb hw1 dK
 by_cases U1:16<tn
 ·have U2:(16:Int)<(tn:Int):=by omega
  have HF:Hid (rv=4):=ah (by rw[bM.out,if_pos U1]);clear U1
  go_enter Tryz.func171,Tryz.ntmps171
  go_upto_region 1 with (fail)
  rw[←HB.out.1,←HB.out.2]
  go_wp2
  rw[bI.out];exact⟨_,I,by rw[HF.out];rfl,Mem.le_refl _,H1.out.drop⟩
 ·have U2:¬(16:Int)<(tn:Int):=by omega
  have HR1:Hid (rv=if kS td≠0 then kS td else if pR cl≠0 then pR cl else match jI cl cl.length with|none=>4|some s=>if 128<(Fm.aW td).length+s then 4 else 0):=ah (by rw[bM.out,if_neg U1]);have aaS:=ah U1;have abV:(tn:Int)≤16:=by omega
  clear U1 bM
  go_enter Tryz.func171,Tryz.ntmps171
  go_upto_region 1 with (fail)
  rw[←HB.out.1,←HB.out.2]
  go_upto_region 3 with (fail)
  clear U2
  go_wp2_with fail
  clear k0 k1
  go_loopw [19] (fun iv wr=>∃(j:Nat),iv=.int .i64 j∧j≤tn∧Hid (kS td=kS (td.drop j))∧Sat W wr (sep (kn I) (sep (blk B (.cells #[.slice ta tn tc,.slice ca cn cc] 30 (0,0))) A))) (fun iv _=>tn-(intOf iv).toNat)
  case atStart=>exact⟨0,rfl,by omega,ah rfl,H1.out.p1⟩
  case round=>
   obtain⟨j,rfl,hj,HV,hS⟩:=hrel
   by_cases hlt:j<tn
   ·as_aux_lemma=>
    have hltz:(j:Int)<(tn:Int):=by omega
    obtain⟨f,hf⟩:∃f,td[j]?=some f:=⟨_,List.getElem?_eq_getElem (by have:=HX.out.2.2.1;omega)⟩
    obtain⟨b,o,p,q,x1,n1,c1,x2,n2,c2,rfl,hrf,hcell⟩:=gV HX.out.1 hf;obtain⟨j0,j1,j2,j3⟩:=hcell wr hS.ext;have hfs:=HXB.out.1 f (List.mem_of_getElem? hf);have hAl:=hS.alloc (.cells #[.int .i64 p,.int .i64 q,.slice x1 n1 c1,.slice x2 n2 c2] 34);obtain⟨GA,TY⟩:=aB (wr.heap.size);obtain⟨w4,hw4⟩:=aB (wr.alloc (.cells #[.int .i64 p,.int .i64 q,.slice x1 n1 c1,.slice x2 n2 c2] 34));rw[←TY,←hw4] at hAl;obtain⟨k0,k1,k2,k3⟩:=kR hAl;have sG:=ah (lF f p q x1 n1 c1 x2 n2 c2 hrf hfs.1 hfs.2 hAl.p1);obtain⟨fe,hfe⟩:=aB (jV f);have hdr:=HV.out.trans (FQ hf);rw[←hfe] at sG hdr;have HDR:=ah hdr;have XC:=ah hlt;have U9:=ah (And.intro TY hw4);clear hrf hcell hfs hfe hdr hf hlt hj hS H1 hAl TY hw4
    go_upto_region 6 with (fail)
    rw[←U9.out.1,←U9.out.2];clear j0 j1 j2 j3
    go_wp2_with fail
    refine sG.out.mono ?_;rintro e w2 ⟨rfl,h2⟩;clear k0 k1 k2 k3 sG;have H2:Hid (Sat W w2 (sep (kn I) (sep (blk B (.cells #[.slice (some ⟨b,o,none⟩) tn tc,.slice ca cn cc] 30 (0,0))) A))):=ah (show Sat W w2 (sep (blk GA (.cells #[.int .i64 p,.int .i64 q,.slice x1 n1 c1,.slice x2 n2 c2] 34 (0,0))) (sep (kn I) (sep (blk B (.cells #[.slice (some ⟨b,o,none⟩) tn tc,.slice ca cn cc] 30 (0,0))) A))) from h2.p1).forget;clear h2
    by_cases he0:fe=0
    ·subst he0
     have YX:Hid (kS td=kS (td.drop (j+1))):=ah (by rw[HDR.out];simp);clear HDR
     go_wp2
     go_roundw
     case rel=>exact⟨j+1,by go_num,by have:=XC.out;omega,YX,H2.out⟩
     case measure=>simp[intOf];have:=XC.out;omega
    ·have he1:(fe !=0)=true:=by simpa using he0
     have he2:(fe==0)=false:=by simpa using he0
     have HF:Hid (rv=fe):=ah (by rw[HR1.out,HDR.out];simp[he0]);clear he0
     go_wp2
     rw[bI.out];exact⟨_,I,by rw[HF.out];rfl,Mem.le_refl _,H2.out.p1.drop⟩
   ·obtain rfl:j=tn:=by omega
    as_aux_lemma=>
    have hv4:=HV.out;rw[List.drop_of_length_le (by have:=HX.out.2.2.1;omega)] at hv4;have HR2:Hid (rv=if pR cl≠0 then pR cl else match jI cl cl.length with|none=>4|some s=>if 128<(Fm.aW td).length+s then 4 else 0):=ah (by rw[HR1.out,hv4];rfl);obtain⟨k0,k1,-,-⟩:=kG hS.p1;have Zf:=ah (lY ca cn cc cl HX.out.2.1 HXB.out.2 hS);obtain⟨ce,hce⟩:=aB (pR cl);rw[←hce] at Zf;have EI:=ah hce;have h4:kS td=0:=hv4;have yC:Hid (Fm.sizes td≤1600):=ah (by
     have key:∀l:List Fm,kS l=0→Fm.sizes l≤96*l.length:=by
      intro l
      induction l with
      | nil=>intro _;simp[Fm.sizes]
      | cons f l ihl=>
       intro h0;rw[kS] at h0;split at h0
       ·rename_i h6;exact absurd h0 h6
       ·rename_i h6
        have h7:=lq (Classical.not_not.1 h6);have h8:=ihl h0;rw[Fm.sizes,List.length_cons];omega
     have:=key td h4;have:=HX.out.2.2.1;have:=aaS.out;omega)
    clear hv4 h4 hce hS hj hlt HR1 H1
    go_upto_region 10 with (fail)
    go_wp2_with fail
    refine Zf.out.mono ?_;rintro e w2 ⟨rfl,h2⟩;clear k0 k1 Zf;have H2:=ah h2;clear h2
    by_cases he0:ce=0
    ·subst he0
     have HR3:Hid (rv=match jI cl cl.length with|none=>4|some s=>if 128<(Fm.aW td).length+s then 4 else 0):=ah (by rw[HR2.out,←EI.out];rfl);have hc32:=(sV EI.out.symm).1;have adN:(cn:Int)≤32:=by have:=HX.out.2.2.2;omega
     obtain⟨k0,k1,-,-⟩:=kG H2.out.p1;have HDP:=ah (JI td w2 _ I ta j tc HX.out.1 (by have:=yC.out;unfold o7;omega) H2.out);clear hc32 HR2
     go_upto_region 13 with (fail)
     go_wp2_with fail
     refine HDP.out.mono ?_;rintro e w3 ⟨bO,m,d,vs,J,rfl,hm,vG,hrJ,h3⟩;have abN:m≤1600:=by
      rw[hm];have h4:=Fm.qE td;have:=yC.out;omega
     have lW:=ah (And.intro hm (And.intro vG hrJ));have XH:=ah abN;have H3:=ah h3;clear H2 HDP k0 k1 hm vG hrJ h3;obtain⟨-,k1,-,-⟩:=kG H3.out.p2
     go_upto_region 14 with (fail)
     go_wp2_with fail
     clear k1
     go_loopw [8,41] (fun ov iv wr=>∃(i m2 d2 s:Nat) (b2:Option Addr) (vs2:List Value) (J2:Mem),ov=.slice b2 m2 d2∧iv=.int .i64 i∧i≤cn∧m2≤1600+i*64∧Hid (jI cl i=some s∧m2=m+s∧Mem.le J J2)∧Sat W wr (sep (aT 34 4 b2 m2 d2 vs2) (sep (kn J2) (sep (blk B (.cells #[.slice ta j tc,.slice ca cn cc] 30 (0,0))) A)))) (fun _ iv _=>cn-(intOf iv).toNat)
     case atStart=>exact⟨0,m,d,0,bO,vs,J,rfl,rfl,by omega,by have:=XH.out;omega,ah ⟨rfl,rfl,Mem.le_refl _⟩,H3.out⟩
     case round=>
      obtain⟨i,m2,d2,s,b2,vs2,J2,rfl,rfl,hi,hm2,rP,hS2⟩:=hrel;obtain⟨k0,k1,-,-⟩:=kG hS2.p2
      by_cases hlt2:i<cn
      ·have Ud:(i:Int)<(cn:Int):=by omega
       have su:=ah (QZ ca cn cc cl ((kM.slice 5).mono (eG lW.out.2.1 rP.out.2.2) HX.out.2.1) EI.out.symm HXB.out.2 i (by have:=HX.out.2.2.2;omega) hS2.p1);obtain⟨av,hav⟩:=aB (fJ cl i);rw[←hav] at su;have EH:=ah (And.intro hav (And.intro hlt2 hm2));have adZ:(m2:Int)≤3700:=by omega
       clear hav hS2 hlt2 hi hm2 H3
       go_upto_region 17 with (fail)
       go_wp2_with fail
       refine su.out.mono ?_;rintro e w5 ⟨a3,n3,c3,J3,rfl,hle3,hres,h5⟩;clear k0 k1 su;have H5:=ah (show Sat W w5 (sep (aT 34 4 b2 m2 d2 vs2) (sep (kn J3) (sep (blk B (.cells #[.slice ta j tc,.slice ca cn cc] 30 (0,0))) A))) from h5.p1);have Y4:=ah hle3;cases av with
       | none=>
        have HF:Hid (rv=4):=ah (by rw[HR3.out,yG EH.out.1.symm cl.length (by have:=HX.out.2.2.2;have:=EH.out.2.1;omega)]);have HF2:=ah (H5.out.dW.p1.drop);clear h5 hle3 hres H5
        go_wp2
        rw[bI.out];exact⟨_,J3,by rw[HF.out];rfl,eG (eG lW.out.2.1 rP.out.2.2) Y4.out,HF2.out⟩
       | some y=>
        obtain⟨hn3,hr3⟩:=hres y rfl;obtain⟨us,yB,hu0,hu1,hur,jy⟩:=kY hr3;have HU:=ah (And.intro yB (And.intro hu0 (And.intro hu1 (jy w5 h5.ext))));have ZP:=xC EH.out.1.symm;have HN:=ah (And.intro hn3 (show n3≤64 by omega));have hmn:m2+n3≤3800:=by omega
        have RN:=ah hmn;clear h5 hle3 hres yB hu0 hu1 hur jy hn3 hr3 ZP hmn
        go_wp2_with (at_builtin;go_loud (refine aJ rfl _ _ 27 rfl 34 4 64 _ Tryz.underlying27 iF rfl rfl H5.out rfl us HU.out.1 HU.out.2.1 HU.out.2.2.2 HU.out.2.2.1 (by have:=RN.out;omega) (by unfold maxLen;have:=RN.out;omega) ?_))
        intro a4 c4 w4 h4;have H4:=ah h4;clear h4 H5
        go_wp2
        go_roundw
        case rel=>exact⟨i+1,m2+n3,c4,s+y.length,a4,vs2++us,J3,rfl,by go_num,by have:=EH.out.2.1;omega,by have:=EH.out.2.2;have:=HN.out.2;rw[Nat.add_mul];omega,ah ⟨BD rP.out.1 EH.out.1.symm,by rw[rP.out.2.1,HN.out.1];omega,eG rP.out.2.2 Y4.out⟩,H4.out⟩
        case measure=>simp[intOf];have:=EH.out.2.1;omega
      ·obtain rfl:i=cn:=by omega
       have HR4:Hid (rv=if 128<m2 then 4 else 0):=ah (by
        have h1:=rP.out.1;rw[HX.out.2.2.2] at h1;rw[HR3.out,h1];show (if 128<(Fm.aW td).length+s then (4:Int) else 0)=_;rw[←lW.out.1,←rP.out.2.1])
       have HF2:=ah (hS2.dW.p1.drop)
       by_cases Ja:128<m2
       ·have U0:(128:Int)<(m2:Int):=by omega
        have HF:Hid (rv=4):=ah (by rw[HR4.out,if_pos Ja]);clear Ja hS2 H3
        go_wp2
        rw[bI.out];exact⟨_,J2,by (rw[HF.out];try rfl),eG lW.out.2.1 rP.out.2.2,HF2.out⟩
       ·have U0:¬(128:Int)<(m2:Int):=by omega
        have HF:Hid (rv=0):=ah (by rw[HR4.out,if_neg Ja]);clear Ja hS2 H3
        go_wp2
        rw[bI.out];exact⟨_,J2,by (rw[HF.out];try rfl),eG lW.out.2.1 rP.out.2.2,HF2.out⟩
    ·have he1:(ce !=0)=true:=by simpa using he0
     have he2:(ce==0)=false:=by simpa using he0
     have HF:Hid (rv=ce):=ah (by rw[HR2.out,←EI.out];simp[he0]);have HF2:=ah (H2.out.p1.drop);clear he0 H2
     go_wp2
     rw[bI.out];exact⟨_,I,by (rw[HF.out];try rfl),Mem.le_refl _,HF2.out⟩
theorem xQ {W w:World} {A:aC} {I:Mem} (ta:Option Addr) (tn tc:Nat) (ca:Option Addr) (cn cc:Nat) (td:List Fm) (cl:List Cl) (ht:(rF.slice 4).rel I [.slice ta tn tc] td) (hc:(kM.slice 5).rel I [.slice ca cn cc] cl) (hT:∀f∈td,Jk f) (hB:∀x∈cl,Jk x.body) (h:Sat W w (sep (kn I) A)):
 Calls Tryz.prog 128 #[.agg #[.slice ta tn tc,.slice ca cn cc]] w fun e w'=>∃J,e=.returned (.int .i64 (ED td cl))∧Mem.le I J∧Sat W w' (sep (kn J) A):=by
 have h1:=h.alloc (.cells #[.slice ta tn tc,.slice ca cn cc] 30);obtain⟨B,hBb⟩:=aB (w.heap.size);obtain⟨w1,hw1⟩:=aB (w.alloc (.cells #[.slice ta tn tc,.slice ca cn cc] 30));rw[←hBb,←hw1] at h1;have HB:=ah (And.intro hBb hw1);obtain⟨k0,k1,-,-⟩:=kG h1;have HD:=ah (Ap ta tn tc ca cn cc td cl ht hc hT hB h1.p1);obtain⟨rv,dK⟩:=aB (ED td cl);rw[←dK] at HD ⊢;clear ht hc hT hB h h1 hBb hw1 dK
 go_enter Tryz.func128,Tryz.ntmps128
 go_upto_region 1 with (fail)
 rw[←HB.out.1,←HB.out.2]
 go_wp2_with fail
 refine HD.out.mono ?_;rintro e w2 ⟨v,J,rfl,hle,h2⟩;have H2:=ah (And.intro hle h2.p1.drop);clear hle h2 HD k0 k1
 go_wp2
 go_ret
 exact⟨J,rfl,H2.out.1,H2.out.2⟩
end Go.Proofs.YthfmaclnccdcbaaGreatDoor
namespace Go.Proofs.YthfmaclnccdcbaaGreatDoor
open Go.RowKit PA
set_option maxHeartbeats 4000000 in
theorem D6 {W w:World} {A:aC} {I:Mem} (ta:Option Addr) (tn tc:Nat) (ca:Option Addr) (cn cc:Nat) (td:List Fm) (cl:List Cl) (ht:(rF.slice 4).rel I [.slice ta tn tc] td) (hc:(kM.slice 5).rel I [.slice ca cn cc] cl) (hT:∀f∈td,f.size≤mg) (hB:∀x∈cl,x.body.size≤mg)
 (hTO:∀f∈td,Qi f) (hCO:∀x∈cl,EG x) (hlen:(lU td cl).length≤268435456) (hlc:(fZ cl).length≤134217728) (h:Sat W w (sep (kn I) A)):
 Calls Tryz.prog 81 #[.agg #[.slice ta tn tc,.slice ca cn cc]] w fun e w'=>∃(b:Option Addr) (m d:Nat) (J:Mem),e=.returned (.tuple #[.slice b m d,.int .i64 (ED td cl)])∧Mem.le I J∧bT.rel J [.slice b m d] (jE td cl)∧Sat W w' (sep (kn J) A):=by
 have htn:=(aI ht).1;have ZI:=(aI ht).2.2;have h1:=h.alloc (.cells #[.slice ta tn tc,.slice ca cn cc] 30);obtain⟨B,hBb⟩:=aB (w.heap.size);obtain⟨w1,hw1⟩:=aB (w.alloc (.cells #[.slice ta tn tc,.slice ca cn cc] 30));rw[←hBb,←hw1] at h1;have xq:=ah (And.intro hBb hw1);have k0:w1.cell? ⟨B,0,none⟩=some (.slice ta tn tc):=by rw[h1.cell 0];rfl
 have k1:w1.cell? ⟨B,1,none⟩=some (.slice ca cn cc):=by rw[h1.cell 1];rfl
 obtain⟨X,hX⟩:=aB (sep (blk B (.cells #[.slice ta tn tc,.slice ca cn cc] 30 (0,0))) A);have HX:Hid (∀w' J Y,Sat W w' (sep Y (sep (kn J) X))→w'.cell? ⟨B,0,none⟩=some (.slice ta tn tc)∧w'.cell? ⟨B,1,none⟩=some (.slice ca cn cc)):=ah fun w' J Y h'=>by
  rw[hX] at h';have h2:=h'.drop.p1;exact⟨by rw[h2.cell 0];rfl,by rw[h2.cell 1];rfl⟩
 have HXD:Hid (∀w' J,Sat W w' (sep (kn J) X)→Sat W w' (sep (kn J) A)∧w'.cell? ⟨B,0,none⟩=some (.slice ta tn tc)∧w'.cell? ⟨B,1,none⟩=some (.slice ca cn cc)):=ah fun w' J h'=>by
  rw[hX] at h';have h2:=h'.p1;exact⟨h2.drop,by rw[h2.cell 0];rfl,by rw[h2.cell 1];rfl⟩
 have h1':Sat W w1 (sep (kn I) X):=by rw[hX];simpa only[aA,ay,aj] using h1
 obtain⟨rv,dK⟩:=aB (ED td cl);obtain⟨E,hE⟩:=aB (lU td cl);obtain⟨E0,hE0⟩:=aB (jE td cl);obtain⟨ce,hce⟩:=aB (pR cl);obtain⟨F,hF⟩:=aB (gU cl);have sH:Hid (∀w' A',Sat W w' (sep (kn I) A')→Calls Tryz.prog 138 #[.agg #[.slice ta tn tc,.slice ca cn cc]] w' fun e w''=>∃J,e=.returned (.int .i64 rv)∧Mem.le I J∧Sat W w'' (sep (kn J) A')):=ah fun w' A' h'=>by rw[dK];exact vU ta tn tc ca cn cc td cl ht hc hT hB h'
 have EI:Hid (∀w' A' J,Mem.le I J→Sat W w' (sep (kn J) A')→Calls Tryz.prog 84 #[.slice ca cn cc] w' fun e w''=>∃(b:Option Addr) (m d:Nat) (J2:Mem),e=.returned (.tuple #[.slice b m d,.int .i64 ce])∧Mem.le J J2∧bT.rel J2 [.slice b m d] F∧Sat W w'' (sep (kn J2) A')):=ah fun w' A' J hl h'=>by rw[hce,hF];exact um ca cn cc cl ((kM.slice 5).mono hl hc) hB hCO hlc h'
 have GX:Hid ((rv=0→E0=E)∧(rv≠0→E0=[])):=ah ⟨fun h0=>by rw[hE0,hE];unfold jE;rw[if_pos (by rw[←dK];exact h0)],fun h0=>by rw[hE0];unfold jE;rw[if_neg (by rw[←dK];exact h0)]⟩;have hFl:F.length≤134217728:=by rw[hF];exact jc hlc
 obtain⟨V,hV⟩:∃V:Nat→List UInt8,V=fun j=>PA.encI tn++rQ (td.take j):=⟨_,rfl⟩
 have hV0:V 0=PA.encI tn:=by rw[hV];simp[rQ]
 have Ai:∀j g,td[j]?=some g→V (j+1)=V j++encR (gu g):=fun j g hg=>by
  rw[hV];simp only;unfold rQ;rw[mM (fun f=>encR (gu f)) hg];simp only[List.append_assoc]
 have Yy:V tn++encR F=E:=by rw[hV,hE,hF];simp only;rw[htn,List.take_length];rfl
 have hEl:E.length≤268435456:=by rw[hE];exact hlen
 have Ah:∀j,(V j).length≤268435456:=fun j=>by
  rw[hV];simp only[dF];have:=uO (fun f=>encR (gu f)) td j;unfold lU at hlen;rw[dF,dF,←htn] at hlen;unfold rQ at hlen ⊢;omega
 have afR:tn≤268435456:=by
  have key:∀l:List Fm,l.length≤(rQ l).length:=by
   intro l
   induction l with
   | nil=>simp
   | cons g l ih=>
    unfold rQ at ih ⊢;rw[List.map_cons,List.flatten_cons,dF,List.length_cons];have:1≤(encR (gu g)).length:=by
     unfold encR;simp only[dF];have:=uvarint_pos (gu g).length;omega
    omega
  have:=key td;unfold lU at hlen;rw[dF,dF] at hlen;omega
 have hb0:=dY (r:=(tn:Int)) (by omega) (by omega);have HVL:=ah (And.intro Ah hEl);have HV:=ah (And.intro hV0 (And.intro Ai Yy));have Ze:=ah (And.intro ht (And.intro hT hTO));have HN:=ah htn;have U8:=ah hFl;have H1:=ah h1';rw[←dK,←hE0];obtain⟨Po,dU⟩:∃P:Ending→World→Prop,P=fun e w'=>∃(b:Option Addr) (m d:Nat) (J:Mem),e=.returned (.tuple #[.slice b m d,.int .i64 rv])∧Mem.le I J∧bT.rel J [.slice b m d] E0∧Sat W w' (sep (kn J) A):=⟨_,rfl⟩
 rw[←dU];have bI:=ah dU;clear ht hc hT hB hTO hCO hlen hlc h h1 h1' hBb hw1 hX dK hE hE0 hce hF hFl hV hV0 Ai Yy hEl Ah htn dU
 by_cases hr0:rv=0
 ·subst hr0
  have HEE:=ah (GX.out.1 rfl);clear GX
  go_enter Tryz.func81,Tryz.ntmps81
  go_upto_region 1 with (fail)
  rw[←xq.out.1,←xq.out.2]
  go_wp2_with fail
  refine (sH.out _ _ H1.out).mono ?_;rintro e w2 ⟨J,rfl,hle,h2⟩;have HJ:=ah hle;have H2:=ah h2;clear h2 hle sH k0 k1 H1;obtain⟨-,k0,k1⟩:=HXD.out _ _ H2.out
  go_upto_region 4 with (fail)
  go_wp2_with fail
  refine (iH (tn:Int) (by omega) (by omega) H2.out).mono ?_;rintro e w3 ⟨a1,c1,rfl,h3⟩;obtain⟨m,hm⟩:=aB ((PA.encI tn).length);obtain⟨vs,hvs⟩:=aB ((PA.encI tn).map bv);rw[←hm,←hvs] at h3;rw[←hm];have HM:=ah (And.intro hm hvs);have H3:=ah h3;clear hm hvs h3 H2 hb0 k0 k1
  go_wp2_with fail
  go_loopw [5,6] (fun ov kv wr=>∃(k:Nat) (a':Option Addr) (n' c':Nat) (vs:List Value) (J:Mem),ov=.slice a' n' c'∧kv=.int .i64 k∧k≤tn∧Hid (n'=(V k).length∧vs=(V k).map bv∧Mem.le I J)∧Sat W wr (sep (aT 5 1 a' n' c' vs) (sep (kn J) X))) (fun _ kv _=>tn-(intOf kv).toNat)
  case atStart=>exact⟨0,a1,m,c1,vs,J,rfl,rfl,by omega,ah ⟨by rw[HM.out.1,HV.out.1],by rw[HM.out.2,HV.out.1],HJ.out⟩,H3.out⟩
  case round=>
   obtain⟨k,a',n',c',vs',J',rfl,rfl,hk,HVV,hS⟩:=hrel;clear H3;obtain⟨k0,k1⟩:=HX.out _ _ _ hS
   by_cases hlt:k<tn
   ·have hltz:(k:Int)<(tn:Int):=by omega
    obtain⟨g,hg⟩:∃g,td[k]?=some g:=⟨_,List.getElem?_eq_getElem (by have:=HN.out;omega)⟩
    have hgm:g∈td:=List.mem_of_getElem? hg;obtain⟨b,o,p,q,x1,n1,d1,x2,n2,d2,rfl,hrb,hcell⟩:=gV Ze.out.1 hg;obtain⟨j0,j1,j2,j3⟩:=hcell wr (tJ HVV.out.2.2 hS.p1.ext);obtain⟨fe,hfe⟩:=aB (jV g);obtain⟨G,hG⟩:=aB (gu g);have hcall:=uj (W:=W) (w:=wr) (A:=sep (aT 5 1 a' n' c' vs') X) (I:=J') g p q x1 n1 d1 x2 n2 d2 (rF.mono HVV.out.2.2 hrb) (Ze.out.2.1 g hgm) (Ze.out.2.2 g hgm).b64 (by have:=(Ze.out.2.2 g hgm).bl;omega) (by simpa only[aA,ay,aj] using hS);rw[←hfe,←hG] at hcall;have hGl:G.length≤16777216:=by rw[hG];exact kC (Ze.out.2.2 g hgm).bl
    obtain⟨m2,hm2⟩:=aB ((encR G).length);obtain⟨v2,hv2⟩:=aB ((encR G).map bv);have hb1:n'+m2≤268435456:=by
     have h1:=HVL.out.1 (k+1);rw[HV.out.2.1 k g hg,dF,←HVV.out.1,←hG,←hm2] at h1;exact h1
    have pI:Hid (V (k+1)=V k++encR G∧k<tn):=ah ⟨by rw[hG];exact HV.out.2.1 k g hg,hlt⟩;have rO:=ah (And.intro hm2 hv2);have EC:=ah hcall;have HB1:=ah (And.intro hb1 hGl);clear hg hgm hrb hcell hfe hG hcall hGl hm2 hv2 hb1 hlt hk hS
    go_upto_region 8 with (fail)
    go_wp2_with fail
    refine EC.out.mono ?_;rintro e w4 ⟨b4,m4,d4,J2,rfl,hle2,hr2,h4⟩;have HJ2:=ah (And.intro hle2 hr2);have H4:=ah h4;clear h4 hle2 hr2 EC k0 k1 j0 j1 j2 j3
    go_upto_region 9 with (fail)
    go_wp2_with fail
    refine (mX (.slice b4 m4 d4) G H4.out HJ2.out.2 (by have:=HB1.out;omega)).mono ?_;rintro e w5 ⟨a5,c5,rfl,h5⟩;rw[←rO.out.1,←rO.out.2] at h5;rw[←rO.out.1];have jw:Hid (oH w5 a5 m2 v2):=ah (by rw[rO.out.2,rO.out.1] at h5 ⊢;exact jg h5);have h6:Sat W w5 (sep (aT 5 1 a' n' c' vs') (sep (kn J2) X)):=by have:=h5.drop;simpa only[aA,ay,aj] using this
    clear h5 H4
    go_wp2_with (at_builtin;(refine aJ rfl (.tmp 36) (.tmp 38) 51 rfl 5 1 1 (.int .u8 0) Tryz.underlying51 eH rfl rfl h6 rfl v2 jw.out.len jw.out.nil jw.out.src jw.out.one (by have:=HB1.out;omega) (by have:=HB1.out;unfold maxLen;omega) ?_))
    intro a7 c7 w7 h9;have H9:=ah h9;clear h6 h9 jw
    go_wp2_with fail
    go_roundw
    case rel=>
     refine⟨k+1,a7,n'+m2,c7,_,J2,rfl,by go_num,by have:=pI.out.2;omega,ah ⟨?_,?_,eG HVV.out.2.2 HJ2.out.1⟩,H9.out⟩
     ·rw[pI.out.1,dF,HVV.out.1,rO.out.1]
     ·rw[pI.out.1,oO,HVV.out.2.1,rO.out.2]
    case measure=>simp[intOf];have:=pI.out.2;omega
   ·obtain rfl:k=tn:=by omega
    have hb1:n'+(encR F).length=E.length:=by rw[HVV.out.1,←dF,HV.out.2.2]
    have hb2:vs'++(encR F).map bv=E.map bv:=by rw[HVV.out.2.1,←oO,HV.out.2.2]
    obtain⟨m2,hm2⟩:=aB ((encR F).length);obtain⟨v2,hv2⟩:=aB ((encR F).map bv);rw[←hm2] at hb1;rw[←hv2] at hb2;have rO:=ah (And.intro hm2 (And.intro hv2 (And.intro hb1 hb2)));have hS2:Sat W wr (sep (kn J') (sep (aT 5 1 a' n' c' vs') X)):=dJ hS;have HJL:=ah HVV.out.2.2;have HS2:=ah hS2;clear hS hS2 hb1 hb2 hm2 hv2 hlt hk HVV
    go_upto_region 10 with (fail)
    go_wp2_with fail
    refine (EI.out _ _ _ HJL.out HS2.out).mono ?_;rintro e w4 ⟨b4,m4,d4,J2,rfl,hle2,hr2,h4⟩;have HJ2:=ah (And.intro hle2 hr2);have H4:=ah h4;clear h4 hle2 hr2 EI k0 k1 HS2
    go_upto_region 11 with (fail)
    go_wp2_with fail
    refine (mX (.slice b4 m4 d4) F H4.out HJ2.out.2 (by have:=U8.out;omega)).mono ?_;rintro e w5 ⟨a5,c5,rfl,h5⟩;rw[←rO.out.1,←rO.out.2.1] at h5;rw[←rO.out.1];have jw:Hid (oH w5 a5 m2 v2):=ah (by rw[rO.out.2.1,rO.out.1] at h5 ⊢;exact jg h5);have h6:Sat W w5 (sep (aT 5 1 a' n' c' vs') (sep (kn J2) X)):=by have:=h5.drop;simpa only[aA,ay,aj] using this
    clear h5 H4
    go_wp2_with (at_builtin;(refine aJ rfl (.tmp 46) (.tmp 48) 51 rfl 5 1 1 (.int .u8 0) Tryz.underlying51 eH rfl rfl h6 rfl v2 jw.out.len jw.out.nil jw.out.src jw.out.one (by have:=rO.out.2.2.1;have:=HVL.out.2;omega) (by have:=rO.out.2.2.1;have:=HVL.out.2;unfold maxLen;omega) ?_))
    intro a7 c7 w7 h9;have h10:Sat W w7 (sep (aT 5 1 a7 (n'+m2) c7 (E.map bv)) (sep (kn J2) X)):=by rw[←rO.out.2.2.2];exact h9
    obtain⟨J3,hle3,hr3,h11⟩:=iy h10 rO.out.2.2.1;have HF:=ah (And.intro hle3 (And.intro hr3 (HXD.out _ _ h11).1));clear h6 h9 h10 h11 hle3 hr3 jw
    go_wp2
    rw[bI.out];exact⟨a7,n'+m2,c7,J3,rfl,eG HJL.out (eG HJ2.out.1 HF.out.1),by rw[HEE.out];exact HF.out.2.1,HF.out.2.2⟩
 ·have HEE:=ah (GX.out.2 hr0)
  have hb1:(rv !=0)=true:=by simpa using hr0
  have hb2:(rv==0)=false:=by simpa using hr0
  clear GX hr0
  go_enter Tryz.func81,Tryz.ntmps81
  go_upto_region 1 with (fail)
  rw[←xq.out.1,←xq.out.2]
  go_wp2_with fail
  refine (sH.out _ _ H1.out).mono ?_;rintro e w2 ⟨J,rfl,hle,h2⟩;have HF:=ah (And.intro hle (HXD.out _ _ h2).1);clear h2 hle sH k0 k1 H1
  go_wp2
  rw[bI.out];exact⟨none,0,0,J,rfl,HF.out.1,by rw[HEE.out];exact iZ J,HF.out.2⟩
end Go.Proofs.YthfmaclnccdcbaaGreatDoor
namespace Go.Proofs.YthfmaclnccdcbaaGreatDoor
open Go.RowKit PA
theorem Ox:okR ⟨1,1⟩=true:=uf 1 1 (by omega) (by omega) (by decide) (by rfl)
def Wn (n d:Int):Int:=if okR ⟨n,d⟩=true then (if n<d then -1 else if d<n then 1 else 0) else 0
theorem ltR_1 (n d:Int):Ob ⟨n,d⟩ ⟨1,1⟩=decide (n<d):=by unfold Ob;simp
theorem ltR_1' (n d:Int):Ob ⟨1,1⟩ ⟨n,d⟩=decide (d<n):=by unfold Ob;simp
set_option maxHeartbeats 1000000 in
theorem Ll {W w:World} {A:aC} (n d:Int) (h:Sat W w A):
 Calls Tryz.prog 164 #[.agg #[.int .i64 n,.int .i64 d],.agg #[.int .i64 1,.int .i64 1]] w fun e w'=>e=.returned (.int .i64 (P7 (okR ⟨n,d⟩)))∧Sat W w' A:=by
 have h1:=(h.alloc (.cells #[.int .i64 n,.int .i64 d] 26)).alloc (.cells #[.int .i64 1,.int .i64 1] 26);rw[World.size_alloc] at h1;obtain⟨B,hB⟩:=aB (w.heap.size);obtain⟨w1,hw1⟩:=aB ((w.alloc (.cells #[.int .i64 n,.int .i64 d] 26)).alloc (.cells #[.int .i64 1,.int .i64 1] 26));rw[←hB,←hw1] at h1;have HB:=ah (And.intro hB hw1);obtain⟨j0,j1,-,-⟩:=kG h1;obtain⟨k0,k1,-,-⟩:=kG h1.p1;have HV:=ah (lZ n d h1);obtain⟨o,ho⟩:=aB (okR ⟨n,d⟩);rw[←ho] at HV ⊢;clear h h1 hB hw1 ho;cases o with
 | false=>
  go_enter Tryz.func164,Tryz.ntmps164
  go_upto_region 1 with (fail)
  simp only[←HB.out.1];rw[←HB.out.2]
  go_wp2_with fail
  refine HV.out.mono ?_;rintro e w2 ⟨rfl,h2⟩;have H2:=ah h2.drop.drop;clear h2 HV j0 j1 k0 k1;unfold P7
  go_wp2
  go_ret
  exact⟨rfl,H2.out⟩
 | true=>
  go_enter Tryz.func164,Tryz.ntmps164
  go_upto_region 1 with (fail)
  simp only[←HB.out.1];rw[←HB.out.2]
  go_wp2_with fail
  refine HV.out.mono ?_;rintro e w2 ⟨rfl,h2⟩;obtain⟨j0,j1,-,-⟩:=kG h2;have hv2:=lZ 1 1 h2;rw[Ox] at hv2;have lW:=ah hv2;clear h2 HV k0 k1 hv2;unfold P7
  go_wp2_with fail
  refine lW.out.mono ?_;rintro e w3 ⟨rfl,h3⟩;have H3:=ah h3.drop.drop;clear h3 lW j0 j1;unfold P7
  go_wp2
  go_ret
  exact⟨rfl,H3.out⟩
set_option maxHeartbeats 1000000 in
theorem OA {W w:World} {A:aC} (n d:Int) (h:Sat W w A):
 Calls Tryz.prog 121 #[.agg #[.int .i64 n,.int .i64 d],.agg #[.int .i64 1,.int .i64 1]] w fun e w'=>∃ev:Int,e=.returned (.tuple #[.int .i64 (Wn n d),.int .i64 ev])∧Sat W w' A:=by
 have h1:=(h.alloc (.cells #[.int .i64 n,.int .i64 d] 26)).alloc (.cells #[.int .i64 1,.int .i64 1] 26);rw[World.size_alloc] at h1;obtain⟨B,hB⟩:=aB (w.heap.size);obtain⟨w1,hw1⟩:=aB ((w.alloc (.cells #[.int .i64 n,.int .i64 d] 26)).alloc (.cells #[.int .i64 1,.int .i64 1] 26));rw[←hB,←hw1] at h1;have HB:=ah (And.intro hB hw1);obtain⟨j0,j1,-,-⟩:=kG h1;obtain⟨k0,k1,-,-⟩:=kG h1.p1;have HV:=ah (Ll n d h1);obtain⟨o,ho⟩:=aB (okR ⟨n,d⟩);obtain⟨cv,hcv⟩:=aB (Wn n d);have hcv2:cv=if o=true then (if n<d then -1 else if d<n then 1 else 0) else 0:=by rw[hcv,ho];rfl
 have Vt:Hid (o=true→∀w' A',Sat W w' A'→Calls Tryz.prog 165 #[.agg #[.int .i64 n,.int .i64 d],.agg #[.int .i64 1,.int .i64 1]] w' fun e w''=>e=.returned (.bool (decide (n<d)))∧Sat W w'' A'):=ah fun e w' A' h'=>by
  rw[←ltR_1];exact qY ⟨n,d⟩ ⟨1,1⟩ (nT (by rw[←ho];exact e)).1 (nT Ox).1 h'
 have HL2:Hid (o=true→∀w' A',Sat W w' A'→Calls Tryz.prog 165 #[.agg #[.int .i64 1,.int .i64 1],.agg #[.int .i64 n,.int .i64 d]] w' fun e w''=>e=.returned (.bool (decide (d<n)))∧Sat W w'' A'):=ah fun e w' A' h'=>by
  rw[←ltR_1'];exact qY ⟨1,1⟩ ⟨n,d⟩ (nT Ox).1 (nT (by rw[←ho];exact e)).1 h'
 rw[←ho] at HV;rw[←hcv];have Qk:=ah hcv2;obtain⟨Po,dU⟩:∃P:Ending→World→Prop,P=fun e w'=>∃ev:Int,e=.returned (.tuple #[.int .i64 cv,.int .i64 ev])∧Sat W w' A:=⟨_,rfl⟩
 rw[←dU];have bI:=ah dU;clear h h1 hB hw1 ho hcv hcv2 dU;cases o with
 | false=>
  go_enter Tryz.func121,Tryz.ntmps121
  go_upto_region 1 with (fail)
  simp only[←HB.out.1];rw[←HB.out.2]
  go_wp2_with fail
  refine HV.out.mono ?_;rintro e w2 ⟨rfl,h2⟩;have H2:=ah h2.drop.drop;clear h2 HV j0 j1 k0 k1 Vt HL2;unfold P7
  go_wp2
  rw[bI.out];exact⟨1,by rw[Qk.out];rfl,H2.out⟩
 | true=>
  go_enter Tryz.func121,Tryz.ntmps121
  go_upto_region 1 with (fail)
  simp only[←HB.out.1];rw[←HB.out.2]
  go_wp2_with fail
  refine HV.out.mono ?_;rintro e w2 ⟨rfl,h2⟩;clear j0 j1 k0 k1;obtain⟨j0,j1,-,-⟩:=kG h2;obtain⟨k0,k1,-,-⟩:=kG h2.p1;have H2:=ah h2;clear h2 HV;unfold P7
  go_wp2_with fail
  refine (Vt.out (by first|rfl|trivial) _ _ H2.out).mono ?_;rintro e w3 ⟨rfl,h3⟩;clear j0 j1 k0 k1;obtain⟨j0,j1,-,-⟩:=kG h3;obtain⟨k0,k1,-,-⟩:=kG h3.p1;have H3:=ah h3;clear h3 H2 Vt
  by_cases c1:n<d
  ·have HF:=ah H3.out.drop.drop
   have HC:Hid (cv=-1):=ah (by rw[Qk.out];simp[c1]);clear HL2
   go_wp2
   rw[bI.out];exact⟨0,by rw[HC.out];rfl,HF.out⟩
  ·go_wp2_with fail
   refine (HL2.out (by first|rfl|trivial) _ _ H3.out).mono ?_;rintro e w4 ⟨rfl,h4⟩;have HF:=ah h4.drop.drop;clear h4 H3 j0 j1 k0 k1
   by_cases c2:d<n
   ·have HC:Hid (cv=1):=ah (by rw[Qk.out];simp only[if_true];rw[if_neg (by omega),if_pos c2])
    go_wp2
    rw[bI.out];exact⟨0,by rw[HC.out];rfl,HF.out⟩
   ·have HC:Hid (cv=0):=ah (by rw[Qk.out];simp only[if_true];rw[if_neg (by omega),if_neg (by omega)])
    go_wp2
    rw[bI.out];exact⟨0,by rw[HC.out];rfl,HF.out⟩
theorem pz {W w:World} {A:aC} {I:Mem} (a:Option Addr) (n c:Nat) (l:List Cl) (hv:(kM.slice 5).rel I [.slice a n c] l) (hB:∀x∈l,x.body.size≤mg) (h:Sat W w (sep (kn I) A)):
 Calls Tryz.prog 120 #[.slice a n c] w fun e w'=>e=.returned (.bool (gW l))∧Sat W w' (sep (kn I) A):=by
 have hn:=(aI hv).1;have hl63:=(aI hv).2.2;have HV:=ah (kZ a n c l hv hB h);obtain⟨ce,hce⟩:=aB (pR l);obtain⟨rv,dK⟩:=aB (gW l);have ji:rv=(decide (0<n)&&decide (ce=0)):=by rw[dK,hn,hce];rfl
 rw[←hce] at HV;rw[←dK];have bM:=ah ji;have H:=ah h;clear hv hB h hn hce dK ji
 by_cases h0:0<n
 ·have h0z:(0:Int)<(n:Int):=by omega
  go_enter Tryz.func120,Tryz.ntmps120
  go_wp2_with fail
  refine HV.out.mono ?_;rintro e w2 ⟨rfl,h2⟩;have H2:=ah h2;clear h2 HV
  go_wp2
  go_ret
  exact⟨by rw[bM.out,decide_eq_true h0];rfl,H2.out⟩
 ·have h0z:n=0:=by omega
  subst h0z
  go_enter Tryz.func120,Tryz.ntmps120
  go_wp2
  go_ret
  exact⟨by rw[bM.out];rfl,H.out⟩
end Go.Proofs.YthfmaclnccdcbaaGreatDoor
namespace Go.Proofs.YthfmaclnccdcbaaGreatDoor
open Go.RowKit PA
theorem Ov {W w:World} {A:aC} (h:Sat W w A):Sat W (w.alloc (.cells #[.slice none 0 0] 104)) (sep (dM w.heap.size []) A):=
 uU (a:=none) (n:=0) (c:=0) (bs:=[]) ((h.gq 5 1).alloc (.cells #[.slice none 0 0] 104))
theorem Ez {W w:World} {A:aC} {p:Nat} {bs:List UInt8} (h:Sat W w (sep (dM p bs) A)):Sat W w A:=by
 obtain⟨a,n,c,-,h1⟩:=qp h;exact h1.forget.dW
set_option maxRecDepth 100000 in
set_option maxHeartbeats 8000000 in
theorem vO {W w:World} {A:aC} {I:Mem} (a:Option Addr) (n c:Nat) (l:List Cl) (hv:(kM.slice 5).rel I [.slice a n c] l) (hB:∀x∈l,Jk x.body) (hok:∀x∈l,EG x) (hlen:(fZ l).length≤134217728) (h:Sat W w (sep (kn I) A)):
 Calls Tryz.prog 76 #[.slice a n c] w fun e w'=>∃(b:Option Addr) (m d:Nat) (J:Mem),e=.returned (.tuple #[.slice b m d,.int .i64 (pR l)])∧Mem.le I J∧bT.rel J [.slice b m d] (gU l)∧Sat W w' (sep (kn J) A):=by
 have hn:=(aI hv).1;have hn63:=(aI hv).2.2;have sG:=ah (lY a n c l hv hB h);obtain⟨rv,dK⟩:=aB (pR l);obtain⟨E,hE⟩:=aB (gU l);have rM:Hid ((rv≠0→E=[])∧(rv=0→E=fZ l)):=ah ⟨fun h0=>by rw[hE];unfold gU;rw[if_neg (by rw[←dK];exact h0)],fun h0=>by rw[hE];unfold gU;rw[if_pos (by rw[←dK];exact h0)]⟩;rw[←dK] at sG ⊢;rw[←hE];obtain⟨Po,dU⟩:∃P:Ending→World→Prop,P=fun e w'=>∃(b:Option Addr) (m d:Nat) (J:Mem),e=.returned (.tuple #[.slice b m d,.int .i64 rv])∧Mem.le I J∧bT.rel J [.slice b m d] E∧Sat W w' (sep (kn J) A):=⟨_,rfl⟩
 rw[←dU];have bI:=ah dU;have HX:=ah (And.intro hv (And.intro hB (And.intro hok (And.intro hn dK))));have HLEN:=ah hlen;clear hv hB hok hn h hE dK dU hlen
 by_cases hb0:rv=0
 ·subst hb0
  have adW:=(sV HX.out.2.2.2.2.symm).1;have hn32:(n:Int)≤32:=by have:=HX.out.2.2.2.1;omega
  have hbody:∀(k:Nat) x,l[k]?=some x→jV x.body=0∧x.refs.length≤8:=fun k x hx=>by
   obtain⟨hk,e⟩:=List.getElem?_eq_some_iff.1 hx;have:=(sV HX.out.2.2.2.2.symm).2 k hk;rw[e] at this;exact⟨this.2.2,this.1⟩
  obtain⟨V,hV⟩:∃V:Nat→List UInt8,V=fun k=>PA.encI (n:Int)++((l.take k).map nK).flatten:=⟨_,rfl⟩
  have hV0:([]:List UInt8)++PA.encI (n:Int)=V 0:=by rw[hV];simp
  have Ai:∀k x,l[k]?=some x→V (k+1)=V k++fO x.refs++encR (bZ x.body):=fun k x hx=>by
   rw[hV];simp only;rw[mM nK hx];unfold nK;simp only[List.append_assoc]
  have Yz:V n=E:=by rw[hV,rM.out.2 rfl];simp only;rw[HX.out.2.2.2.1,List.take_length];rfl
  have Ah:∀k,(V k).length≤134217728:=fun k=>by
   rw[hV];simp only;have h1:=uO nK l k;have h2:=HLEN.out;unfold fZ nM at h2;rw[dF] at h2 ⊢;rw[HX.out.2.2.2.1];omega
  have HVV:=ah (And.intro hV0 (And.intro Ai (And.intro Yz Ah)));have HBO:=ah hbody;clear hV hV0 Ai Yz Ah hbody adW
  go_enter Tryz.func76,Tryz.ntmps76
  go_wp2_with fail
  refine sG.out.mono ?_;rintro e w2 ⟨rfl,h2⟩;have h3:=Ov h2;obtain⟨P,hP⟩:=aB (w2.heap.size);obtain⟨w3,hw3⟩:=aB (w2.alloc (.cells #[.slice none 0 0] 104));rw[←hP,←hw3] at h3;have hw:=iJ P [] (n:Int) (by omega) (by omega) h3 (by simp);rw[HVV.out.1] at hw;have Jo:=ah hw;have HP:=ah (And.intro hP hw3);clear h2 h3 hP hw3 hw sG
  go_upto_region 5 with (fail)
  rw[←HP.out.1,←HP.out.2]
  go_wp2_with fail
  refine Jo.out.mono ?_;rintro e w4 ⟨rfl,h4⟩;have H4:=ah h4;clear h4 Jo HP
  go_wp2_with fail
  go_loopw [23] (fun iv wr=>∃(k:Nat) (J:Mem),iv=.int .i64 k∧k≤n∧Hid (Mem.le I J)∧Sat W wr (sep (dM P (V k)) (sep (kn J) A))) (fun iv _=>n-(intOf iv).toNat)
  case atStart=>exact⟨0,I,rfl,by omega,ah (Mem.le_refl _),H4.out⟩
  case round=>
   obtain⟨k,J,rfl,hk,HJ,hS⟩:=hrel;clear H4
   by_cases hlt:k<n
   ·as_aux_lemma=>
    have hltz:(k:Int)<(n:Int):=by omega
    obtain⟨x,hx⟩:∃x,l[k]?=some x:=⟨_,List.getElem?_eq_getElem (by have:=HX.out.2.2.2.1;omega)⟩
    obtain⟨b,o,ra,rc,p,q,x1,n1,c1,x2,n2,c2,rfl,hrr,hrb,hcell⟩:=uI HX.out.1 hx;have hxm:=List.mem_of_getElem? hx;obtain⟨hbe,ZF⟩:=HBO.out k x hx;have hxo:=HX.out.2.2.1 x hxm;obtain⟨j0,j1,j2,j3,j4⟩:=hcell wr (fun g u hb=>hS.p1.ext g u (HJ.out g u hb));have hvs:=HVV.out.2.1 k x hx;have hvl:=HVV.out.2.2.2 k;have hE0:gu x.body=bZ x.body:=by unfold gu;rw[if_pos hbe]
    obtain⟨nr,hnr⟩:=aB (x.refs.length);rw[←hnr] at hrr j0 ZF;have hAl:=hS.alloc (.cells #[.slice ra nr rc,.int .i64 p,.int .i64 q,.slice x1 n1 c1,.slice x2 n2 c2] 91);obtain⟨M,hM⟩:=aB (wr.heap.size);obtain⟨w5,hw5⟩:=aB (wr.alloc (.cells #[.slice ra nr rc,.int .i64 p,.int .i64 q,.slice x1 n1 c1,.slice x2 n2 c2] 91));rw[←hM,←hw5] at hAl;obtain⟨k0,k1,k2,k3,k4⟩:=cl5 hAl;have hfe:=pF x.body p q x1 n1 c1 x2 n2 c2 (rF.mono HJ.out hrb) (HX.out.2.1 x hxm) hxo.b64 (show Sat W w5 (sep (kn J) (sep (blk M (.cells #[.slice ra nr rc,.int .i64 p,.int .i64 q,.slice x1 n1 c1,.slice x2 n2 c2] 91 (0,0))) (sep (dM P (V k)) A))) by simpa only[aA,ay,aj] using hAl);rw[hbe,hE0] at hfe;have vY:=ah hfe;have GY:=ah (And.intro hM hw5);have HK:=ah (And.intro hlt (And.intro hvs (And.intro hvl (And.intro hxo hnr))));have HRR:=ah hrr;clear hrr hrb hcell hxm hbe hxo hvs hvl hE0 hAl hM hw5 hfe hlt hk hS hnr hx
    go_upto_region 9 with (fail)
    rw[←GY.out.1,←GY.out.2];clear j0 j1 j2 j3 j4
    go_wp2_with fail
    refine vY.out.mono ?_;rintro e w6 ⟨fb,fl,fc,J2,rfl,hle2,Di,h6⟩;clear k0 k1 k2 k3 k4 vY;have h7:Sat W w6 (sep (blk M (.cells #[.slice ra nr rc,.int .i64 p,.int .i64 q,.slice x1 n1 c1,.slice x2 n2 c2] 91 (0,0))) (sep (dM P (V k)) (sep (kn J2) A))):=dJ h6;obtain⟨k0,-,-,-,-⟩:=cl5 h7;have hws:=zT P (V k) ra nr rc x.refs HK.out.2.2.2.2 (by have:=HK.out.2.2.2.2;omega) HK.out.2.2.2.1.r64 (fun w' B hs j r hr=>by
     obtain⟨rb,ro,e,hrc⟩:=nO HRR.out hr;exact⟨rb,ro,e,hrc w' (fun g u hb=>(show Sat W w' (sep (kn J2) (sep B A)) by simpa only[aA,ay,aj] using hs).ext g u (hle2 g u (HJ.out g u hb)))⟩) (show Sat W w6 (sep (dM P (V k)) (sep (kn J2) A)) from h7.forget) (by have:=HK.out.2.2.1;omega)
    have HWS:=ah hws;have H2:=ah (And.intro hle2 Di);clear h6 h7 hle2 Di hws
    go_upto_region 12 with (fail)
    go_wp2_with fail
    refine HWS.out.mono ?_;rintro e w7 ⟨rfl,h8⟩;have hel:(fO x.refs).length≤200:=by
     have h1:=uM (l:=x.refs) (by have:=HK.out.2.2.2.2;omega) HK.out.2.2.2.1.r64 x.refs.length;rw[pW] at h1;have:=HK.out.2.2.2.2;omega
    have hwr:=ng P (V k++fO x.refs) (.slice fb fl fc) (bZ x.body) h8 H2.out.2 (by rw[dF];have:=HK.out.2.2.1;omega) (by have:=HK.out.2.2.2.1.bl;omega);rw[←HK.out.2.1] at hwr;have Jp:=ah hwr;clear h8 hwr hel HWS k0
    go_wp2_with fail
    refine Jp.out.mono ?_;rintro e w8 ⟨rfl,h9⟩;have H9:=ah h9;clear h9 Jp
    go_wp2
    go_roundw
    case rel=>exact⟨k+1,J2,by go_num,by have:=HK.out.1;omega,ah (eG HJ.out H2.out.1),H9.out⟩
    case measure=>simp[intOf];have:=HK.out.1;omega
   ·obtain rfl:k=n:=by omega
    rw[HVV.out.2.2.1] at hS;have hEl:E.length≤134217728:=by rw[←HVV.out.2.2.1];exact HVV.out.2.2.2 k
    have HD:=ah (oq P E hS (by omega));clear hS hlt hk hEl
    go_wp2_with fail
    refine HD.out.mono ?_;rintro e w5 ⟨a5,c5,rfl,h5⟩;have h6:Sat W w5 (sep (aT 5 1 a5 E.length c5 (E.map bv)) (sep (kn J) A)):=Ez (by simpa only[aA,ay,aj] using h5);obtain⟨J3,hle3,hr3,h7⟩:=iy h6 rfl;have HF:=ah (And.intro (eG HJ.out hle3) (And.intro hr3 h7));clear h5 h6 hle3 hr3 h7 HD
    go_wp2
    rw[bI.out];exact⟨a5,E.length,c5,J3,rfl,HF.out.1,HF.out.2.1,HF.out.2.2⟩
 ·have GX:=ah (rM.out.1 hb0)
  have hb1:(rv !=0)=true:=by simpa using hb0
  have hb2:(rv==0)=false:=by simpa using hb0
  clear rM hb0
  go_enter Tryz.func76,Tryz.ntmps76
  go_wp2_with fail
  refine sG.out.mono ?_;rintro e w2 ⟨rfl,h2⟩;have HF:=ah h2;clear h2 sG
  go_wp2
  rw[bI.out];exact⟨none,0,0,I,rfl,Mem.le_refl I,by rw[GX.out];exact iZ I,HF.out⟩
end Go.Proofs.YthfmaclnccdcbaaGreatDoor

/- Part of a proof. -/
import Derived.Test.YthfmaclnccdcbaaGreatDoorZFO20
import Derived.Test.YthfmaclnccdcbaaGreatDoorZFO19
import Derived.Test.YthfmaclnccdcbaaGreatDoorZFO25
namespace PA
open Go Go.RowKit
theorem Ho {l:List Fm} {j:Nat} {f:Fm} (h:l[j]?=some f):lI (l.drop j)=if kQ f≠0 then kQ f else lI (l.drop (j+1)):=by
 obtain⟨hj,rfl⟩:=qM h;rw[List.drop_eq_getElem_cons hj,lI]
theorem zH {l:List Cl} {k:Nat} (h:fU l k=none):∀n,k<n→jZ l n=none
 | 0,h0=>absurd h0 (Nat.not_lt_zero _)
 | n+1,h0=>by
  unfold jZ;rcases Nat.lt_succ_iff_lt_or_eq.1 h0 with h1|rfl
  ·rw[zH h n h1]
  ·rw[h];cases jZ l k<;>rfl
theorem Dx {l:List Cl} {n s:Nat} {y:List Fm} (h1:jZ l n=some s) (h2:fU l n=some y):jZ l (n+1)=some (s+y.length):=by
 unfold jZ;rw[h1,h2]
end PA
namespace Go.Proofs.YthfmaclnccdcbaaGreatDoor
open Go.RowKit PA
set_option maxHeartbeats 1000000 in
theorem Qs {W w:World} {A:aB} {I:Mem} (a:Option Addr) (n c:Nat) (l:List Cl) (hv:(lM.slice 5).rel I [.slice a n c] l) (hok:qQ l=0) (hB:∀x∈l,x.body.size≤nN) (k:Nat) (hk:k<l.length) (h:Sat W w (sep (kn I) A)):
 Calls Tryz.prog 204 #[.slice a n c,.int .i64 (k:Nat)] w fun e w'=>∃(b:Option Addr) (m d:Nat) (J:Mem),e=.returned (.tuple #[.slice b m d,.int .i64 (if (fU l k).isSome=true then 0 else 4)])∧Mem.le I J∧(∀y,fU l k=some y→m=y.length∧(rF.slice 4).rel J [.slice b m d] y)∧Sat W w' (sep (kn J) A):=by
 have hn:=(aJ hv).1;have hn63:=(aJ hv).2.2;have hvs:∀w' A',Sat W w' (sep (kn I) A')→Calls Tryz.prog 140 #[.slice a n c] w' fun e w''=>e=.returned (.int .i64 0)∧Sat W w'' (sep (kn I) A'):=fun w' A' h'=>by
  have:=lV a n c l hv hB h';rw[hok] at this;exact this
 have hcs:∀w' A',Sat W w' (sep (kn I) A')→Calls Tryz.prog 220 #[.slice a n c,.int .i64 (k:Nat)] w' fun e w''=>e=.returned (.int .i64 0)∧Sat W w'' (sep (kn I) A'):=fun w' A' h'=>by
  have HV:=ah (hvs w' A' h');have hkz:(k:Int)<(n:Int):=by omega
  have hk0:¬(k:Int)<0:=by omega
  clear hvs h' hv hB hok hn hk;go_enter Tryz.func220,Tryz.ntmps220;go_wp2_with fail;refine HV.out.mono ?_;rintro e w2 ⟨rfl,h2⟩;have H2:=ah h2;clear h2 HV;go_wp2;go_ret;exact⟨rfl,H2.out⟩
 have pU:=ah (hcs w A h);have ug:=ah (fun w' (h':Sat W w' (sep (kn I) A))=>JG a n c l hv hok k hk w' A I (bW _) h');obtain⟨av,hav⟩:=aC (fU l k);rw[←hav] at ug ⊢;obtain⟨Po,dS⟩:∃P:Ending→World→Prop,P=fun e w'=>∃(b:Option Addr) (m d:Nat) (J:Mem),e=.returned (.tuple #[.slice b m d,.int .i64 (if av.isSome=true then 0 else 4)])∧Mem.le I J∧(∀y,av=some y→m=y.length∧(rF.slice 4).rel J [.slice b m d] y)∧Sat W w' (sep (kn J) A):=⟨_,rfl⟩
 rw[←dS];have bK:=ah dS;clear hvs hcs h hv hB hok hn hk hav dS;go_enter Tryz.func204,Tryz.ntmps204;go_wp2_with fail;refine pU.out.mono ?_;rintro e w2 ⟨rfl,h2⟩;have H2:=ah h2;clear h2 pU;go_wp2_with fail;refine (ug.out _ H2.out).mono ?_;rintro e w3 ⟨b,m,d,J,rfl,hle,hres,h3⟩;have H3:=ah (aH hle (aH hres h3));clear hle hres h3 H2 ug;cases av with
 | none=>
  go_wp2;rw[bK.out];exact⟨none,0,0,J,rfl,H3.out.1,fun y hy=>(by cases hy),H3.out.2.2⟩
 | some y=>
  go_wp2;rw[bK.out];exact⟨b,m,d,J,rfl,H3.out.1,H3.out.2.1,H3.out.2.2⟩
set_option maxRecDepth 100000 in
set_option maxHeartbeats 8000000 in
theorem y9 {W w:World} {A:aB} {I:Mem} (ta:Option Addr) (tn tc:Nat) (ca:Option Addr) (cn cc:Nat) (td:List Fm) (cl:List Cl) (ht:(rF.slice 4).rel I [.slice ta tn tc] td) (hc:(lM.slice 5).rel I [.slice ca cn cc] cl) (hT:∀f∈td,f.size≤nN) (hB:∀x∈cl,x.body.size≤nN) (h:Sat W w (sep (kn I) A)):
 Calls Tryz.prog 177 #[.agg #[.slice ta tn tc,.slice ca cn cc]] w fun e w'=>∃v J,e=.returned (.tuple #[v,.int .i64 (FT td cl)])∧Mem.le I J∧Sat W w' (sep (kn J) A):=by
 have htn:=(aJ ht).1;have abK:=(aJ ht).2.2;have hcn:=(aJ hc).1;have hc63:=(aJ hc).2.2;have h1:=h.alloc (.cells #[.slice ta tn tc,.slice ca cn cc] 30);obtain⟨B,hBb⟩:=aC (w.heap.size);obtain⟨w1,hw1⟩:=aC (w.alloc (.cells #[.slice ta tn tc,.slice ca cn cc] 30));rw[←hBb,←hw1] at h1;have HB:=ah (aH hBb hw1);have H1:=ah h1;obtain⟨k0,k1,-,-⟩:=kX h1;obtain⟨rv,dQ⟩:=aC (FT td cl);rw[←dQ];obtain⟨Po,dS⟩:∃P:Ending→World→Prop,P=fun e w'=>∃v J,e=.returned (.tuple #[v,.int .i64 rv])∧Mem.le I J∧Sat W w' (sep (kn J) A):=⟨_,rfl⟩
 rw[←dS];have bK:=ah dS;clear dS;have bU:Hid (rv=if 16<tn then 4 else if lI td≠0 then lI td else if qQ cl≠0 then qQ cl else match jZ cl cl.length with|none=>4|some s=>if 128<(Fm.aZ td).length+s then 4 else 0):=ah (by rw[dQ,htn];rfl);have HX:=ah (aH ht (aH hc (aH htn hcn)));have HXB:=ah (aH hT hB);clear ht hc hT hB h htn hcn h1 hBb hw1 dQ;by_cases XK:16<tn
 ·have XL:(16:Int)<(tn:Int):=by omega
  have HF:Hid (rv=4):=ah (by rw[bU.out,if_pos XK]);clear XK;go_enter Tryz.func177,Tryz.ntmps177;go_upto_region 1 with fail;rw[←HB.out.1,←HB.out.2];go_wp2;rw[bK.out];exact⟨_,I,by rw[HF.out];rfl,bW _,H1.out.drop⟩
 ·have XL:¬(16:Int)<(tn:Int):=by omega
  have HR1:Hid (rv=if lI td≠0 then lI td else if qQ cl≠0 then qQ cl else match jZ cl cl.length with|none=>4|some s=>if 128<(Fm.aZ td).length+s then 4 else 0):=ah (by rw[bU.out,if_neg XK]);have acQ:=ah XK;have adU:(tn:Int)≤16:=by omega
  clear XK bU;go_enter Tryz.func177,Tryz.ntmps177;go_upto_region 1 with fail;rw[←HB.out.1,←HB.out.2];go_upto_region 4 with fail;clear k0 k1 XL;go_wp2_with fail;go_loopw [4,5] (fun ov iv wr=>∃(j m d:Nat) (bO:Option Addr) (vs:List Value) (J:Mem),ov=.slice bO m d∧iv=.int .i64 j∧j≤tn∧m≤j*96∧Hid (m=(Fm.aZ (td.take j)).length∧Mem.le I J∧(rF.rows 4).rel J vs (Fm.aZ (td.take j))∧lI td=lI (td.drop j))∧Sat W wr (sep (aT 34 4 bO m d vs) (sep (kn J) (sep (blk B (.cells #[.slice ta tn tc,.slice ca cn cc] 30 (0,0))) A)))) (fun _ iv _=>tn-(intOf iv).toNat)
  case atStart=>exact⟨0,0,0,none,[],I,rfl,rfl,by omega,by omega,ah ⟨rfl,bW _,lN _ _ _,rfl⟩,(H1.out.p1).fV 34 4⟩
  case round=>
   obtain⟨j,m,d,bO,vs,J,rfl,rfl,hj,hm,HV,hS⟩:=hrel;obtain⟨k0,k1,-,-⟩:=kX hS.p2;by_cases hlt:j<tn
   ·as_aux_lemma=>
    have hltz:(j:Int)<(tn:Int):=by omega
    obtain⟨f,hf⟩:∃f,td[j]?=some f:=⟨_,iM (by have:=HX.out.2.2.1;omega)⟩
    obtain⟨b,o,p,q,x1,n1,c1,x2,n2,c2,rfl,hrf,hcell⟩:=gY HX.out.1 hf;have FY:=ah (fun w' (he:Ext J w')=>hcell w' (fun i o hb=>he i o (HV.out.2.1 i o hb)));obtain⟨j0,j1,j2,j3⟩:=FY.out wr hS.p1.ext;have hfs:=HXB.out.1 f (mZ hf);have wK:=ah (jR f p q x1 n1 c1 x2 n2 c2 (rF.mono HV.out.2.1 hrf) hfs hS.p1);have HPT:=ah (fun w' A' (h':Sat W w' (sep (kn J) A'))=>GK f w' A' J p q x1 n1 c1 x2 n2 c2 (rF.mono HV.out.2.1 hrf) hfs h');obtain⟨fe,hfe⟩:=aC (kQ f);have hdr:=HV.out.2.2.2.trans (Ho hf);rw[←hfe] at wK hdr;have HDR:=ah hdr;have Z8:=ah (aH hf (aH hfe (aH hlt hm)));have adK:(m:Int)≤1536:=by omega
    clear hrf hcell hfs hfe hdr hf hlt hj hm hS H1;go_upto_region 7 with fail;go_wp2_with fail;refine wK.out.mono ?_;rintro e w2 ⟨rfl,h2⟩;clear j0 j1 j2 j3 k0 k1 wK;have H2:=ah (show Sat W w2 (sep (aT 34 4 bO m d vs) (sep (kn J) (sep (blk B (.cells #[.slice (some ⟨b,o,none⟩) tn tc,.slice ca cn cc] 30 (0,0))) A))) from h2.p1);clear h2;by_cases he0:fe=0
    ·subst he0
     obtain⟨k0,k1,-,-⟩:=kX H2.out.p2;obtain⟨j0,j1,j2,j3⟩:=FY.out w2 H2.out.p1.ext;have aa0:Hid (lI td=lI (td.drop (j+1))):=ah (by rw[HDR.out];simp);have hsf:=lY Z8.out.2.1.symm;have htl:=Fm.zo f;have HTL:Hid (f.dO.length≤96):=ah (by omega);clear hsf htl HDR;go_upto_region 10 with fail;go_wp2_with fail;refine (HPT.out _ _ H2.out.p1).mono ?_;rintro e w3 ⟨a3,n3,c3,J3,rfl,hn3,hle3,hr3,h3⟩;obtain⟨us,zB,hu0,hu1,hur,jQ⟩:=lU hr3;have HU:=ah (aH zB (aH hu0 (aH hu1 (aH hur (jQ w3 h3.ext)))));have HN:=ah (aH hn3 hle3);have H3:=ah (show Sat W w3 (sep (aT 34 4 bO m d vs) (sep (kn J3) (sep (blk B (.cells #[.slice (some ⟨b,o,none⟩) tn tc,.slice ca cn cc] 30 (0,0))) A))) from h3.p1);have hmn:m+n3≤1632:=by have:=HTL.out;omega
     have UM:=ah hmn;clear h3 zB hu0 hu1 hur jQ hn3 hle3 hr3 HPT j0 j1 j2 j3 k0 k1 H2 hmn;go_wp2_with (at_builtin;go_loud (refine aK rfl _ _ 27 rfl 34 4 64 _ Tryz.underlying27 iQ rfl rfl H3.out rfl us HU.out.1 HU.out.2.1 HU.out.2.2.2.2 HU.out.2.2.1 (by have:=UM.out;omega) (by unfold maxLen;have:=UM.out;omega) ?_))
     intro a4 c4 w4 h4;have H4:=ah h4;clear h4 H3;go_wp2;go_roundw;case rel=>
      have htk:=Fm.zq td j Z8.out.1;refine⟨j+1,m+n3,c4,a4,vs++us,J3,rfl,by go_num,by have:=Z8.out.2.2.1;omega,by have:=Z8.out.2.2.2;have:=HTL.out;have:=HN.out.1;rw[Nat.add_mul];omega,ah ⟨by rw[htk,dM,←HV.out.1,←HN.out.1],eG HV.out.2.1 HN.out.2,by rw[htk];exact gQ ((rF.rows 4).mono HN.out.2 HV.out.2.2.1) HU.out.2.2.2.1,aa0.out⟩,H4.out⟩
     case measure=>simp[intOf];have:=Z8.out.2.2.1;omega
    ·have he1:(fe !=0)=true:=by simpa using he0
     have he2:(fe==0)=false:=by simpa using he0
     have HF:Hid (rv=fe):=ah (by rw[HR1.out,HDR.out];simp[he0]);have HF2:=ah (H2.out.eu.p1.drop);clear he0 H2;go_wp2;rw[bK.out];exact⟨_,J,by rw[HF.out];rfl,HV.out.2.1,HF2.out⟩
   ·obtain rfl:j=tn:=by omega
    as_aux_lemma=>
    obtain⟨hv1,hv2,hv3,hv4⟩:=HV.out;rw[List.drop_of_length_le (by have:=HX.out.2.2.1;omega)] at hv4;rw[List.take_of_length_le (by have:=HX.out.2.2.1;omega)] at hv1 hv3;have HR2:Hid (rv=if qQ cl≠0 then qQ cl else match jZ cl cl.length with|none=>4|some s=>if 128<(Fm.aZ td).length+s then 4 else 0):=ah (by rw[HR1.out,hv4];rfl);have pO:=ah (aH hv1 (aH hv2 hv3));have hcJ:=(lM.slice 5).mono hv2 HX.out.2.1;have HVC:=ah (lV ca cn cc cl hcJ HXB.out.2 hS.p1);obtain⟨ce,hce⟩:=aC (qQ cl);rw[←hce] at HVC;have FY:=ah hce;have hmB:(m:Int)≤1536:=by omega
    have HMB:=ah hm;clear hv1 hv2 hv3 hv4 hcJ hce hS hj hlt hm HR1 H1;go_upto_region 11 with fail;go_wp2_with fail;refine HVC.out.mono ?_;rintro e w2 ⟨rfl,h2⟩;clear k0 k1 HVC;have H2:=ah (show Sat W w2 (sep (aT 34 4 bO m d vs) (sep (kn J) (sep (blk B (.cells #[.slice ta j tc,.slice ca cn cc] 30 (0,0))) A))) from h2.p1);clear h2;by_cases he0:ce=0
    ·subst he0
     have HR3:Hid (rv=match jZ cl cl.length with|none=>4|some s=>if 128<(Fm.aZ td).length+s then 4 else 0):=ah (by rw[HR2.out,←FY.out];rfl);have hc32:=(uG FY.out.symm).1;have afB:(cn:Int)≤32:=by have:=HX.out.2.2.2;omega
     clear hc32 HR2;go_upto_region 14 with fail;go_wp2_with fail;go_loopw [4,8] (fun ov iv wr=>∃(i m2 d2 s:Nat) (b2:Option Addr) (vs2:List Value) (J2:Mem),ov=.slice b2 m2 d2∧iv=.int .i64 i∧i≤cn∧m2≤1536+i*64∧Hid (jZ cl i=some s∧m2=m+s∧Mem.le J J2)∧Sat W wr (sep (aT 34 4 b2 m2 d2 vs2) (sep (kn J2) (sep (blk B (.cells #[.slice ta j tc,.slice ca cn cc] 30 (0,0))) A)))) (fun _ iv _=>cn-(intOf iv).toNat)
     case atStart=>exact⟨0,m,d,0,bO,vs,J,rfl,rfl,by omega,by have:=HMB.out;omega,ah ⟨rfl,rfl,bW _⟩,H2.out⟩
     case round=>
      obtain⟨i,m2,d2,s,b2,vs2,J2,rfl,rfl,hi,hm2,tH,hS2⟩:=hrel;obtain⟨k0,k1,-,-⟩:=kX hS2.p2;by_cases hlt2:i<cn
      ·have WB:(i:Int)<(cn:Int):=by omega
       have ug:=ah (Qs ca cn cc cl ((lM.slice 5).mono (eG pO.out.2.1 tH.out.2.2) HX.out.2.1) FY.out.symm HXB.out.2 i (by have:=HX.out.2.2.2;omega) hS2.p1);obtain⟨av,hav⟩:=aC (fU cl i);rw[←hav] at ug;have FX:=ah (aH hav (aH hlt2 hm2));have afJ:(m2:Int)≤3584:=by omega
       clear hav hS2 hlt2 hi hm2 H2;go_upto_region 17 with fail;go_wp2_with fail;refine ug.out.mono ?_;rintro e w3 ⟨a3,n3,c3,J3,rfl,hle3,hres,h3⟩;clear k0 k1 ug;have H3:=ah (show Sat W w3 (sep (aT 34 4 b2 m2 d2 vs2) (sep (kn J3) (sep (blk B (.cells #[.slice ta j tc,.slice ca cn cc] 30 (0,0))) A))) from h3.p1);have XW:=ah hle3;cases av with
       | none=>
        have HF:Hid (rv=4):=ah (by rw[HR3.out,zH FX.out.1.symm cl.length (by have:=HX.out.2.2.2;have:=FX.out.2.1;omega)]);have HF2:=ah (H3.out.eu.p1.drop);clear h3 hle3 hres H3;go_wp2;rw[bK.out];exact⟨_,J3,by rw[HF.out];rfl,eG (eG pO.out.2.1 tH.out.2.2) XW.out,HF2.out⟩
       | some y=>
        obtain⟨hn3,hr3⟩:=hres y rfl;obtain⟨us,zB,hu0,hu1,hur,jQ⟩:=lU hr3;have HU:=ah (aH zB (aH hu0 (aH hu1 (jQ w3 h3.ext))));have abR:=yF FX.out.1.symm;have HN:=ah (aH hn3 (show n3≤64 by omega));have hmn:m2+n3≤3700:=by omega
        have UM:=ah hmn;clear h3 hle3 hres zB hu0 hu1 hur jQ hn3 hr3 abR hmn;go_wp2_with (at_builtin;go_loud (refine aK rfl _ _ 27 rfl 34 4 64 _ Tryz.underlying27 iQ rfl rfl H3.out rfl us HU.out.1 HU.out.2.1 HU.out.2.2.2 HU.out.2.2.1 (by have:=UM.out;omega) (by unfold maxLen;have:=UM.out;omega) ?_))
        intro a4 c4 w4 h4;have H4:=ah h4;clear h4 H3;go_wp2;go_roundw;case rel=>exact⟨i+1,m2+n3,c4,s+y.length,a4,vs2++us,J3,rfl,by go_num,by have:=FX.out.2.1;omega,by have:=FX.out.2.2;have:=HN.out.2;rw[Nat.add_mul];omega,ah ⟨Dx tH.out.1 FX.out.1.symm,by rw[tH.out.2.1,HN.out.1];omega,eG tH.out.2.2 XW.out⟩,H4.out⟩
        case measure=>simp[intOf];have:=FX.out.2.1;omega
      ·obtain rfl:i=cn:=by omega
       have HR4:Hid (rv=if 128<m2 then 4 else 0):=ah (by
        have h1:=tH.out.1;rw[HX.out.2.2.2] at h1;rw[HR3.out,h1];show (if 128<(Fm.aZ td).length+s then (4:Int) else 0)=_;rw[←pO.out.1,←tH.out.2.1])
       have HF2:=ah (hS2.eu.p1.drop);by_cases Kz:128<m2
       ·have XJ:(128:Int)<(m2:Int):=by omega
        have HF:Hid (rv=4):=ah (by rw[HR4.out,if_pos Kz]);clear Kz hS2 H2;go_wp2;rw[bK.out];exact⟨_,J2,by (rw[HF.out];try rfl),eG pO.out.2.1 tH.out.2.2,HF2.out⟩
       ·have XJ:¬(128:Int)<(m2:Int):=by omega
        have HF:Hid (rv=0):=ah (by rw[HR4.out,if_neg Kz]);clear Kz hS2 H2;go_wp2;rw[bK.out];exact⟨_,J2,by (rw[HF.out];try rfl),eG pO.out.2.1 tH.out.2.2,HF2.out⟩
    ·have he1:(ce !=0)=true:=by simpa using he0
     have he2:(ce==0)=false:=by simpa using he0
     have HF:Hid (rv=ce):=ah (by rw[HR2.out,←FY.out];simp[he0]);have HF2:=ah (H2.out.eu.p1.drop);clear he0 H2;go_wp2;rw[bK.out];exact⟨_,J,by (rw[HF.out];try rfl),pO.out.2.1,HF2.out⟩
theorem wY {W w:World} {A:aB} {I:Mem} (ta:Option Addr) (tn tc:Nat) (ca:Option Addr) (cn cc:Nat) (td:List Fm) (cl:List Cl) (ht:(rF.slice 4).rel I [.slice ta tn tc] td) (hc:(lM.slice 5).rel I [.slice ca cn cc] cl) (hT:∀f∈td,f.size≤nN) (hB:∀x∈cl,x.body.size≤nN) (h:Sat W w (sep (kn I) A)):
 Calls Tryz.prog 138 #[.agg #[.slice ta tn tc,.slice ca cn cc]] w fun e w'=>∃J,e=.returned (.int .i64 (FT td cl))∧Mem.le I J∧Sat W w' (sep (kn J) A):=by
 have h1:=h.alloc (.cells #[.slice ta tn tc,.slice ca cn cc] 30);obtain⟨B,hBb⟩:=aC (w.heap.size);obtain⟨w1,hw1⟩:=aC (w.alloc (.cells #[.slice ta tn tc,.slice ca cn cc] 30));rw[←hBb,←hw1] at h1;have HB:=ah (aH hBb hw1);obtain⟨k0,k1,-,-⟩:=kX h1;have HD:=ah (y9 ta tn tc ca cn cc td cl ht hc hT hB h1.p1);obtain⟨rv,dQ⟩:=aC (FT td cl);rw[←dQ] at HD ⊢;clear ht hc hT hB h h1 hBb hw1 dQ;go_enter Tryz.func138,Tryz.ntmps138;go_upto_region 1 with fail;rw[←HB.out.1,←HB.out.2];go_wp2_with fail;refine HD.out.mono ?_;rintro e w2 ⟨v,J,rfl,hle,h2⟩;have H2:=ah (aH hle h2.p1.drop);clear hle h2 HD k0 k1;go_wp2;go_ret;exact⟨J,rfl,H2.out.1,H2.out.2⟩
section
attribute [local go_sem ↓] iF
attribute [local go_sem] DN
def U1 (W:World) (I:Mem) (ys:List Fm) (A:aB) (e:Ending) (w':World):Prop:=
 ∃(a:Option Addr) (n c:Nat) (vs:List Value) (J:Mem),e=.returned (.slice a n c)∧n=ys.length∧Mem.le I J∧(rF.rows 4).rel J vs ys∧Sat W w' (sep (aT 34 4 a n c vs) (sep (kn J) A))
def U2 (W:World) (l:List Fm):Prop:=
 ∀(w:World) (A:aB) (I:Mem) (a:Option Addr) (n c:Nat),(rF.slice 4).rel I [.slice a n c] l→Fm.sizes l≤qI→Sat W w (sep (kn I) A)→Calls Tryz.prog 200 #[.slice a n c] w (U1 W I (Fm.aZ l) A)
set_option maxRecDepth 100000 in
set_option maxHeartbeats 8000000 in
theorem A8 {W:World} (l:List Fm) (ih:∀f∈l,U2 W f.kids):U2 W l:=by
 intro w A I a n c hv hsz h;have hn:=(aJ hv).1;have hn63:=(aJ hv).2.2;obtain⟨Po,dS⟩:=aC (U1 W I (Fm.aZ l) A);rw[←dS];have bK:=ah dS;have HX:=ah (aH hv (aH hsz (aH hn ih)));have H1:=ah h;clear hv hsz h hn dS ih;go_enter Tryz.func200,Tryz.ntmps200;go_wp2_with fail;go_loopw [3,8] (fun ov iv wr=>∃(j m d:Nat) (b:Option Addr) (vs:List Value) (J:Mem),ov=.slice b m d∧iv=.int .i64 j∧j≤n∧m≤1000000∧Hid (m=(Fm.aZ (l.take j)).length∧Mem.le I J∧(rF.rows 4).rel J vs (Fm.aZ (l.take j)))∧Sat W wr (sep (aT 34 4 b m d vs) (sep (kn J) A))) (fun _ iv _=>n-(intOf iv).toNat)
 case atStart=>exact⟨0,0,0,none,[],I,rfl,rfl,by omega,by omega,ah ⟨by simp[Fm.aZ],bW _,by simp only[List.take_zero,Fm.aZ];exact lN _ _ _⟩,H1.out.fV 34 4⟩
 case round=>
  obtain⟨j,m,d,b,vs,J,rfl,rfl,hj,hm6,HV,hS⟩:=hrel;by_cases hlt:j<n
  ·as_aux_lemma=>
   have hltz:(j:Int)<(n:Int):=by omega
   obtain⟨g,hg⟩:∃g,l[j]?=some g:=⟨_,iM (by have:=HX.out.2.2.1;omega)⟩
   obtain⟨b2,o2,p',q',y1,m1,d1,y2,m2,d2,rfl,hgr,hcell⟩:=gY HX.out.1 hg;have hmem:g∈l:=mZ hg;have X8:=rF.mono HV.out.2.1 hgr;obtain⟨j0,j1,j2,j3⟩:=hcell wr (fun i o hb=>hS.p1.ext i o (HV.out.2.1 i o hb));have htk:=Fm.zq l j hg;have hgs:=Fm.lQ hmem;have MI:(Fm.aZ (l.take (j+1))).length≤1000000:=by have h1:=Fm.rO (l.take (j+1));have h2:=Fm.rH l (j+1);have h3:=HX.out.2.1;unfold qI at h3;omega
   have ihg:=HX.out.2.2.2 g hmem;obtain⟨o',n',i',k'⟩:=g;obtain⟨x1',c1',x2',c2',e,hi',hk'⟩:=dW.1 X8;simp only[List.cons.injEq,Value.int.injEq,Value.slice.injEq,true_and,and_true] at e;obtain⟨rfl,rfl,⟨rfl,rfl,rfl⟩,⟨rfl,rfl,rfl⟩⟩:=e;have hAl:=hS.alloc (.cells #[.int .i64 p',.int .i64 q',.slice y1 i'.length d1,.slice y2 k'.length d2] 34);obtain⟨ni,hni⟩:=aC (i'.length);obtain⟨nk,hnk⟩:=aC (k'.length);obtain⟨f0,hf0⟩:=aC (Fm.mk p' q' i' k');have hsk:Fm.sizes k'≤qI:=by
    have h3:=HX.out.2.1;rw[Fm.size] at hgs;omega
   rw[←hni,←hnk] at hAl X8;rw[←hni] at j2;rw[←hnk] at j3 hk';have hrec:∀w' A',Sat W w' (sep (kn J) A')→Calls Tryz.prog 200 #[.slice y2 nk d2] w' (U1 W J (Fm.aZ k') A'):=fun w' A' h'=>ihg w' A' J y2 nk d2 hk' hsk h'
   obtain⟨GA,Wx⟩:=aC (wr.heap.size);obtain⟨w4,hw4⟩:=aC (wr.alloc (.cells #[.int .i64 p',.int .i64 q',.slice y1 ni d1,.slice y2 nk d2] 34));rw[←Wx,←hw4] at hAl;obtain⟨k0,k1,k2,k3⟩:=lH hAl;have ug:Hid (Sat W w4 (sep (aT 34 4 b m d vs) (sep (kn J) (sep (blk GA (.cells #[.int .i64 p',.int .i64 q',.slice y1 ni d1,.slice y2 nk d2] 34 (0,0))) A)))):=ah (dI hAl);have XT:=ah (aH Wx hw4);have QY:=ah hrec;have HT:=ah (aH htk (aH MI (aH hlt X8)));clear hgr hcell hmem X8 htk hgs hrec hS hlt hj MI H1 hg hAl Wx hw4 hi' hk' hsk hni hnk hf0 ihg;by_cases o5:p'=5
   ·subst o5
    have Dn:Hid ((Fm.mk 5 q' i' k').dO=Fm.aZ k'):=ah (by rw[Fm.dO,if_pos rfl]);go_upto_region 5 with fail;rw[←XT.out.1,←XT.out.2];clear j0 j1 j2 j3;go_wp2_with fail;refine (QY.out _ _ ug.out.p1).mono ?_;rintro e w2 ⟨a3,n3,c3,vs3,J2,rfl,hn3,hle2,hr2,h20⟩;obtain⟨J3,aaE,hr3,h2⟩:=jA hr2 hn3 h20;have hle3:=eG hle2 aaE;obtain⟨us,zB,hu0,hu1,hur,jQ⟩:=lU hr3;have hmn:m+n3≤1000000:=by have:=HT.out.2.1;rw[HT.out.1,dM,←HV.out.1,Dn.out,←hn3] at this;exact this
    have HU:=ah (aH zB (aH hu0 (aH hu1 (aH hur (jQ w2 h2.ext)))));have HN:=ah (aH hmn (aH hn3 hle3));have H2:Hid (Sat W w2 (sep (aT 34 4 b m d vs) (sep (kn J3) A))):=ah (by
     have h3:Sat W w2 (sep (blk GA (.cells #[.int .i64 5,.int .i64 q',.slice y1 ni d1,.slice y2 nk d2] 34 (0,0))) (sep (aT 34 4 b m d vs) (sep (kn J3) A))):=dI h2;exact h3.forget)
    clear h2 h20 zB hu0 hu1 hur jQ hmn hn3 hle3 hle2 aaE hr3 hr2 QY k0 k1 k2 k3;go_wp2_with (at_builtin;go_loud (refine aK rfl _ _ 27 rfl 34 4 64 _ Tryz.underlying27 iQ rfl rfl H2.out rfl us HU.out.1 HU.out.2.1 HU.out.2.2.2.2 HU.out.2.2.1 (by have:=HN.out.1;omega) (by unfold maxLen;have:=HN.out.1;omega) ?_))
    intro a4 c4 w5 h4;have H4:=ah h4;clear h4 H2;go_wp2;go_roundw;case rel=>exact⟨j+1,m+n3,c4,a4,vs++us,J3,rfl,by go_num,by have:=HT.out.2.2.1;omega,HN.out.1,ah ⟨by rw[HT.out.1,dM,←HV.out.1,Dn.out,←HN.out.2.1],eG HV.out.2.1 HN.out.2.2,by rw[HT.out.1,Dn.out];exact gQ ((rF.rows 4).mono HN.out.2.2 HV.out.2.2) HU.out.2.2.2.1⟩,H4.out⟩
    case measure=>simp[intOf];have:=HT.out.2.2.1;omega
   ·have Dn:Hid ((Fm.mk p' q' i' k').dO=[Fm.mk p' q' i' k']):=ah (by rw[Fm.dO,if_neg o5])
    have o5':(p'==5)=false:=by simpa using o5
    have hmn:m+1≤1000000:=by have:=HT.out.2.1;rw[HT.out.1,dM,←HV.out.1,Dn.out] at this;exact this
    have oD:=ah (jm w4 [.int .i64 p',.int .i64 q',.slice y1 ni d1,.slice y2 nk d2] 34);have HA2:Hid (Sat W (w4.alloc (.cells #[.int .i64 p',.int .i64 q',.slice y1 ni d1,.slice y2 nk d2] 34)) (sep (aT 34 4 b m d vs) (sep (kn J) A))):=ah (by
     have h3:=ug.out.iy (.cells #[.int .i64 p',.int .i64 q',.slice y1 ni d1,.slice y2 nk d2] 34);have h5:Sat W (w4.alloc (.cells #[.int .i64 p',.int .i64 q',.slice y1 ni d1,.slice y2 nk d2] 34)) (sep (blk GA (.cells #[.int .i64 p',.int .i64 q',.slice y1 ni d1,.slice y2 nk d2] 34 (0,0))) (sep (aT 34 4 b m d vs) (sep (kn J) A))):=dI h3;exact h5.forget)
    have UM:=ah hmn;clear o5 hmn;go_upto_region 5 with fail;rw[←XT.out.1,←XT.out.2];clear j0 j1 j2 j3;go_wp2_with (at_builtin;refine aK rfl _ _ 27 rfl 34 4 64 _ Tryz.underlying27 iQ rfl rfl HA2.out rfl [.int .i64 p',.int .i64 q',.slice y1 ni d1,.slice y2 nk d2] rfl (by simp) (by intro b' hb;cases hb;exact oD.out) (zf HT.out.2.2.2) (by have:=UM.out;omega) (by unfold maxLen;have:=UM.out;omega) ?_)
    intro a4 c4 w5 h4;have H4:=ah h4;clear h4 HA2 oD k0 k1 k2 k3;go_wp2;go_roundw;case rel=>exact⟨j+1,m+1,c4,a4,_,J,rfl,by go_num,by have:=HT.out.2.2.1;omega,UM.out,ah ⟨by rw[HT.out.1,dM,←HV.out.1,Dn.out];rfl,HV.out.2.1,by rw[HT.out.1,Dn.out];exact gQ HV.out.2.2 (jg HT.out.2.2.2 rfl)⟩,H4.out⟩
    case measure=>simp[intOf];have:=HT.out.2.2.1;omega
  ·obtain rfl:j=n:=by omega
   obtain⟨hv1,hv2,hv3⟩:=HV.out;rw[List.take_of_length_le (by have:=HX.out.2.2.1;omega)] at hv1 hv3;have HF:=ah (aH hv1 (aH hv2 (aH hv3 hS)));clear hS hv1 hv2 hv3 H1;go_wp2;rw[bK.out];exact⟨b,m,d,vs,J,rfl,HF.out.1,HF.out.2.1,HF.out.2.2.1,HF.out.2.2.2⟩
theorem LQ {W:World} (f:Fm):U2 W f.kids:=
 Fm.ind (P:=fun f=>U2 W f.kids) (fun _ _ _ k ih=>A8 k ih) f
theorem LU {W:World} (l:List Fm):U2 W l:=A8 l fun f _=>LQ f
set_option maxRecDepth 100000 in
set_option maxHeartbeats 8000000 in
theorem BP {W w:World} {A:aB} {I:Mem} (ta:Option Addr) (tn tc:Nat) (ca:Option Addr) (cn cc:Nat) (td:List Fm) (cl:List Cl) (ht:(rF.slice 4).rel I [.slice ta tn tc] td) (hc:(lM.slice 5).rel I [.slice ca cn cc] cl) (hT:∀f∈td,KQ f) (hB:∀x∈cl,KQ x.body) (h:Sat W w (sep (kn I) A)):
 Calls Tryz.prog 171 #[.agg #[.slice ta tn tc,.slice ca cn cc]] w fun e w'=>∃v J,e=.returned (.tuple #[v,.int .i64 (FT td cl)])∧Mem.le I J∧Sat W w' (sep (kn J) A):=by
 have htn:=(aJ ht).1;have abK:=(aJ ht).2.2;have hcn:=(aJ hc).1;have hc63:=(aJ hc).2.2;have h1:=h.alloc (.cells #[.slice ta tn tc,.slice ca cn cc] 30);obtain⟨B,hBb⟩:=aC (w.heap.size);obtain⟨w1,hw1⟩:=aC (w.alloc (.cells #[.slice ta tn tc,.slice ca cn cc] 30));rw[←hBb,←hw1] at h1;have HB:=ah (aH hBb hw1);have H1:=ah h1;obtain⟨k0,k1,-,-⟩:=kX h1;obtain⟨rv,dQ⟩:=aC (FT td cl);rw[←dQ];obtain⟨Po,dS⟩:∃P:Ending→World→Prop,P=fun e w'=>∃v J,e=.returned (.tuple #[v,.int .i64 rv])∧Mem.le I J∧Sat W w' (sep (kn J) A):=⟨_,rfl⟩
 rw[←dS];have bK:=ah dS;clear dS;have bU:Hid (rv=if 16<tn then 4 else if lI td≠0 then lI td else if qQ cl≠0 then qQ cl else match jZ cl cl.length with|none=>4|some s=>if 128<(Fm.aZ td).length+s then 4 else 0):=ah (by rw[dQ,htn];rfl);have HX:=ah (aH ht (aH hc (aH htn hcn)));have HXB:=ah (aH hT hB);clear ht hc hT hB h htn hcn h1 hBb hw1 dQ;by_cases XK:16<tn
 ·have XL:(16:Int)<(tn:Int):=by omega
  have HF:Hid (rv=4):=ah (by rw[bU.out,if_pos XK]);clear XK;go_enter Tryz.func171,Tryz.ntmps171;go_upto_region 1 with fail;rw[←HB.out.1,←HB.out.2];go_wp2;rw[bK.out];exact⟨_,I,by rw[HF.out];rfl,bW _,H1.out.drop⟩
 ·have XL:¬(16:Int)<(tn:Int):=by omega
  have HR1:Hid (rv=if lI td≠0 then lI td else if qQ cl≠0 then qQ cl else match jZ cl cl.length with|none=>4|some s=>if 128<(Fm.aZ td).length+s then 4 else 0):=ah (by rw[bU.out,if_neg XK]);have acQ:=ah XK;have adU:(tn:Int)≤16:=by omega
  clear XK bU;go_enter Tryz.func171,Tryz.ntmps171;go_upto_region 1 with fail;rw[←HB.out.1,←HB.out.2];go_upto_region 3 with fail;clear XL;go_wp2_with fail;clear k0 k1;go_loopw [19] (fun iv wr=>∃(j:Nat),iv=.int .i64 j∧j≤tn∧Hid (lI td=lI (td.drop j))∧Sat W wr (sep (kn I) (sep (blk B (.cells #[.slice ta tn tc,.slice ca cn cc] 30 (0,0))) A))) (fun iv _=>tn-(intOf iv).toNat)
  case atStart=>exact⟨0,rfl,by omega,ah rfl,H1.out.p1⟩
  case round=>
   obtain⟨j,rfl,hj,HV,hS⟩:=hrel;by_cases hlt:j<tn
   ·as_aux_lemma=>
    have hltz:(j:Int)<(tn:Int):=by omega
    obtain⟨f,hf⟩:∃f,td[j]?=some f:=⟨_,iM (by have:=HX.out.2.2.1;omega)⟩
    obtain⟨b,o,p,q,x1,n1,c1,x2,n2,c2,rfl,hrf,hcell⟩:=gY HX.out.1 hf;obtain⟨j0,j1,j2,j3⟩:=hcell wr hS.ext;have hfs:=HXB.out.1 f (mZ hf);have hAl:=hS.alloc (.cells #[.int .i64 p,.int .i64 q,.slice x1 n1 c1,.slice x2 n2 c2] 34);obtain⟨GA,Wx⟩:=aC (wr.heap.size);obtain⟨w4,hw4⟩:=aC (wr.alloc (.cells #[.int .i64 p,.int .i64 q,.slice x1 n1 c1,.slice x2 n2 c2] 34));rw[←Wx,←hw4] at hAl;obtain⟨k0,k1,k2,k3⟩:=lH hAl;have wK:=ah (mF f p q x1 n1 c1 x2 n2 c2 hrf hfs.1 hfs.2 hAl.p1);obtain⟨fe,hfe⟩:=aC (kQ f);have hdr:=HV.out.trans (Ho hf);rw[←hfe] at wK hdr;have HDR:=ah hdr;have Z8:=ah hlt;have XT:=ah (aH Wx hw4);clear hrf hcell hfs hfe hdr hf hlt hj hS H1 hAl Wx hw4;go_upto_region 6 with fail;rw[←XT.out.1,←XT.out.2];clear j0 j1 j2 j3;go_wp2_with fail;refine wK.out.mono ?_;rintro e w2 ⟨rfl,h2⟩;clear k0 k1 k2 k3 wK;have H2:Hid (Sat W w2 (sep (kn I) (sep (blk B (.cells #[.slice (some ⟨b,o,none⟩) tn tc,.slice ca cn cc] 30 (0,0))) A))):=ah (show Sat W w2 (sep (blk GA (.cells #[.int .i64 p,.int .i64 q,.slice x1 n1 c1,.slice x2 n2 c2] 34 (0,0))) (sep (kn I) (sep (blk B (.cells #[.slice (some ⟨b,o,none⟩) tn tc,.slice ca cn cc] 30 (0,0))) A))) from h2.p1).forget;clear h2;by_cases he0:fe=0
    ·subst he0
     have aa0:Hid (lI td=lI (td.drop (j+1))):=ah (by rw[HDR.out];simp);clear HDR;go_wp2;go_roundw;case rel=>exact⟨j+1,by go_num,by have:=Z8.out;omega,aa0,H2.out⟩
     case measure=>simp[intOf];have:=Z8.out;omega
    ·have he1:(fe !=0)=true:=by simpa using he0
     have he2:(fe==0)=false:=by simpa using he0
     have HF:Hid (rv=fe):=ah (by rw[HR1.out,HDR.out];simp[he0]);clear he0;go_wp2;rw[bK.out];exact⟨_,I,by rw[HF.out];rfl,bW _,H2.out.p1.drop⟩
   ·obtain rfl:j=tn:=by omega
    as_aux_lemma=>
    have hv4:=HV.out;rw[List.drop_of_length_le (by have:=HX.out.2.2.1;omega)] at hv4;have HR2:Hid (rv=if qQ cl≠0 then qQ cl else match jZ cl cl.length with|none=>4|some s=>if 128<(Fm.aZ td).length+s then 4 else 0):=ah (by rw[HR1.out,hv4];rfl);obtain⟨k0,k1,-,-⟩:=kX hS.p1;have HVC:=ah (nI ca cn cc cl HX.out.2.1 HXB.out.2 hS);obtain⟨ce,hce⟩:=aC (qQ cl);rw[←hce] at HVC;have FY:=ah hce;have h4:lI td=0:=hv4;have zD:Hid (Fm.sizes td≤1600):=ah (by
     have key:∀l:List Fm,lI l=0→Fm.sizes l≤96*l.length:=by
      intro l
      induction l with
      | nil=>intro _;simp[Fm.sizes]
      | cons f l ihl=>
       intro h0;rw[lI] at h0;split at h0
       ·rename_i h6;exact absurd h0 h6
       ·rename_i h6
        have h7:=lY (Classical.not_not.1 h6);have h8:=ihl h0;rw[Fm.sizes,oP];omega
     have:=key td h4;have:=HX.out.2.2.1;have:=acQ.out;omega)
    clear hv4 h4 hce hS hj hlt HR1 H1;go_upto_region 10 with fail;go_wp2_with fail;refine HVC.out.mono ?_;rintro e w2 ⟨rfl,h2⟩;clear k0 k1 HVC;have H2:=ah h2;clear h2;by_cases he0:ce=0
    ·subst he0
     have HR3:Hid (rv=match jZ cl cl.length with|none=>4|some s=>if 128<(Fm.aZ td).length+s then 4 else 0):=ah (by rw[HR2.out,←FY.out];rfl);have hc32:=(uG FY.out.symm).1;have afB:(cn:Int)≤32:=by have:=HX.out.2.2.2;omega
     obtain⟨k0,k1,-,-⟩:=kX H2.out.p1;have HDP:=ah (LU td w2 _ I ta j tc HX.out.1 (by have:=zD.out;unfold qI;omega) H2.out);clear hc32 HR2;go_upto_region 13 with fail;go_wp2_with fail;refine HDP.out.mono ?_;rintro e w3 ⟨bO,m,d,vs,J,rfl,hm,wH,hrJ,h3⟩;have adK:m≤1600:=by
      rw[hm];have h4:=Fm.rO td;have:=zD.out;omega
     have pO:=ah (aH hm (aH wH hrJ));have HMB:=ah adK;have H3:=ah h3;clear H2 HDP k0 k1 hm wH hrJ h3;obtain⟨-,k1,-,-⟩:=kX H3.out.p2;go_upto_region 14 with fail;go_wp2_with fail;clear k1;go_loopw [8,41] (fun ov iv wr=>∃(i m2 d2 s:Nat) (b2:Option Addr) (vs2:List Value) (J2:Mem),ov=.slice b2 m2 d2∧iv=.int .i64 i∧i≤cn∧m2≤1600+i*64∧Hid (jZ cl i=some s∧m2=m+s∧Mem.le J J2)∧Sat W wr (sep (aT 34 4 b2 m2 d2 vs2) (sep (kn J2) (sep (blk B (.cells #[.slice ta j tc,.slice ca cn cc] 30 (0,0))) A)))) (fun _ iv _=>cn-(intOf iv).toNat)
     case atStart=>exact⟨0,m,d,0,bO,vs,J,rfl,rfl,by omega,by have:=HMB.out;omega,ah ⟨rfl,rfl,bW _⟩,H3.out⟩
     case round=>
      obtain⟨i,m2,d2,s,b2,vs2,J2,rfl,rfl,hi,hm2,tH,hS2⟩:=hrel;obtain⟨k0,k1,-,-⟩:=kX hS2.p2;by_cases hlt2:i<cn
      ·have WB:(i:Int)<(cn:Int):=by omega
       have ug:=ah (Ue ca cn cc cl ((lM.slice 5).mono (eG pO.out.2.1 tH.out.2.2) HX.out.2.1) FY.out.symm HXB.out.2 i (by have:=HX.out.2.2.2;omega) hS2.p1);obtain⟨av,hav⟩:=aC (fU cl i);rw[←hav] at ug;have FX:=ah (aH hav (aH hlt2 hm2));have afJ:(m2:Int)≤3700:=by omega
       clear hav hS2 hlt2 hi hm2 H3;go_upto_region 17 with fail;go_wp2_with fail;refine ug.out.mono ?_;rintro e w5 ⟨a3,n3,c3,J3,rfl,hle3,hres,h5⟩;clear k0 k1 ug;have H5:=ah (show Sat W w5 (sep (aT 34 4 b2 m2 d2 vs2) (sep (kn J3) (sep (blk B (.cells #[.slice ta j tc,.slice ca cn cc] 30 (0,0))) A))) from h5.p1);have XW:=ah hle3;cases av with
       | none=>
        have HF:Hid (rv=4):=ah (by rw[HR3.out,zH FX.out.1.symm cl.length (by have:=HX.out.2.2.2;have:=FX.out.2.1;omega)]);have HF2:=ah (H5.out.eu.p1.drop);clear h5 hle3 hres H5;go_wp2;rw[bK.out];exact⟨_,J3,by rw[HF.out];rfl,eG (eG pO.out.2.1 tH.out.2.2) XW.out,HF2.out⟩
       | some y=>
        obtain⟨hn3,hr3⟩:=hres y rfl;obtain⟨us,zB,hu0,hu1,hur,jQ⟩:=lU hr3;have HU:=ah (aH zB (aH hu0 (aH hu1 (jQ w5 h5.ext))));have abR:=yF FX.out.1.symm;have HN:=ah (aH hn3 (show n3≤64 by omega));have hmn:m2+n3≤3800:=by omega
        have UM:=ah hmn;clear h5 hle3 hres zB hu0 hu1 hur jQ hn3 hr3 abR hmn;go_wp2_with (at_builtin;go_loud (refine aK rfl _ _ 27 rfl 34 4 64 _ Tryz.underlying27 iQ rfl rfl H5.out rfl us HU.out.1 HU.out.2.1 HU.out.2.2.2 HU.out.2.2.1 (by have:=UM.out;omega) (by unfold maxLen;have:=UM.out;omega) ?_))
        intro a4 c4 w4 h4;have H4:=ah h4;clear h4 H5;go_wp2;go_roundw;case rel=>exact⟨i+1,m2+n3,c4,s+y.length,a4,vs2++us,J3,rfl,by go_num,by have:=FX.out.2.1;omega,by have:=FX.out.2.2;have:=HN.out.2;rw[Nat.add_mul];omega,ah ⟨Dx tH.out.1 FX.out.1.symm,by rw[tH.out.2.1,HN.out.1];omega,eG tH.out.2.2 XW.out⟩,H4.out⟩
        case measure=>simp[intOf];have:=FX.out.2.1;omega
      ·obtain rfl:i=cn:=by omega
       have HR4:Hid (rv=if 128<m2 then 4 else 0):=ah (by
        have h1:=tH.out.1;rw[HX.out.2.2.2] at h1;rw[HR3.out,h1];show (if 128<(Fm.aZ td).length+s then (4:Int) else 0)=_;rw[←pO.out.1,←tH.out.2.1])
       have HF2:=ah (hS2.eu.p1.drop);by_cases Kz:128<m2
       ·have XJ:(128:Int)<(m2:Int):=by omega
        have HF:Hid (rv=4):=ah (by rw[HR4.out,if_pos Kz]);clear Kz hS2 H3;go_wp2;rw[bK.out];exact⟨_,J2,by (rw[HF.out];try rfl),eG pO.out.2.1 tH.out.2.2,HF2.out⟩
       ·have XJ:¬(128:Int)<(m2:Int):=by omega
        have HF:Hid (rv=0):=ah (by rw[HR4.out,if_neg Kz]);clear Kz hS2 H3;go_wp2;rw[bK.out];exact⟨_,J2,by (rw[HF.out];try rfl),eG pO.out.2.1 tH.out.2.2,HF2.out⟩
    ·have he1:(ce !=0)=true:=by simpa using he0
     have he2:(ce==0)=false:=by simpa using he0
     have HF:Hid (rv=ce):=ah (by rw[HR2.out,←FY.out];simp[he0]);have HF2:=ah (H2.out.p1.drop);clear he0 H2;go_wp2;rw[bK.out];exact⟨_,I,by (rw[HF.out];try rfl),bW _,HF2.out⟩
theorem yR {W w:World} {A:aB} {I:Mem} (ta:Option Addr) (tn tc:Nat) (ca:Option Addr) (cn cc:Nat) (td:List Fm) (cl:List Cl) (ht:(rF.slice 4).rel I [.slice ta tn tc] td) (hc:(lM.slice 5).rel I [.slice ca cn cc] cl) (hT:∀f∈td,KQ f) (hB:∀x∈cl,KQ x.body) (h:Sat W w (sep (kn I) A)):
 Calls Tryz.prog 128 #[.agg #[.slice ta tn tc,.slice ca cn cc]] w fun e w'=>∃J,e=.returned (.int .i64 (FT td cl))∧Mem.le I J∧Sat W w' (sep (kn J) A):=by
 have h1:=h.alloc (.cells #[.slice ta tn tc,.slice ca cn cc] 30);obtain⟨B,hBb⟩:=aC (w.heap.size);obtain⟨w1,hw1⟩:=aC (w.alloc (.cells #[.slice ta tn tc,.slice ca cn cc] 30));rw[←hBb,←hw1] at h1;have HB:=ah (aH hBb hw1);obtain⟨k0,k1,-,-⟩:=kX h1;have HD:=ah (BP ta tn tc ca cn cc td cl ht hc hT hB h1.p1);obtain⟨rv,dQ⟩:=aC (FT td cl);rw[←dQ] at HD ⊢;clear ht hc hT hB h h1 hBb hw1 dQ;go_enter Tryz.func128,Tryz.ntmps128;go_upto_region 1 with fail;rw[←HB.out.1,←HB.out.2];go_wp2_with fail;refine HD.out.mono ?_;rintro e w2 ⟨v,J,rfl,hle,h2⟩;have H2:=ah (aH hle h2.p1.drop);clear hle h2 HD k0 k1;go_wp2;go_ret;exact⟨J,rfl,H2.out.1,H2.out.2⟩
end
theorem Qn {W w:World} {A:aB} (h:Sat W w A):Sat W (w.alloc (.cells #[.slice none 0 0] 104)) (sep (dP w.heap.size []) A):=
 vT (a:=none) (n:=0) (c:=0) (bs:=[]) ((h.fV 5 1).alloc (.cells #[.slice none 0 0] 104))
theorem FM {W w:World} {A:aB} {p:Nat} {bs:List UInt8} (h:Sat W w (sep (dP p bs) A)):Sat W w A:=by
 obtain⟨a,n,c,-,h1⟩:=rE h;exact h1.forget.eu
set_option maxRecDepth 100000 in
set_option maxHeartbeats 8000000 in
theorem wU {W w:World} {A:aB} {I:Mem} (a:Option Addr) (n c:Nat) (l:List Cl) (hv:(lM.slice 5).rel I [.slice a n c] l) (hB:∀x∈l,KQ x.body) (hok:∀x∈l,FW x) (hlen:(gJ l).length≤134217728) (h:Sat W w (sep (kn I) A)):
 Calls Tryz.prog 76 #[.slice a n c] w fun e w'=>∃(b:Option Addr) (m d:Nat) (J:Mem),e=.returned (.tuple #[.slice b m d,.int .i64 (qQ l)])∧Mem.le I J∧bZ.rel J [.slice b m d] (gX l)∧Sat W w' (sep (kn J) A):=by
 have hn:=(aJ hv).1;have hn63:=(aJ hv).2.2;have wK:=ah (nI a n c l hv hB h);obtain⟨rv,dQ⟩:=aC (qQ l);obtain⟨E,hE⟩:=aC (gX l);have kY:Hid ((rv≠0→E=[])∧(rv=0→E=gJ l)):=ah ⟨fun h0=>by rw[hE];unfold gX;rw[if_neg (by rw[←dQ];exact h0)],fun h0=>by rw[hE];unfold gX;rw[if_pos (by rw[←dQ];exact h0)]⟩;rw[←dQ] at wK ⊢;rw[←hE];obtain⟨Po,dS⟩:∃P:Ending→World→Prop,P=fun e w'=>∃(b:Option Addr) (m d:Nat) (J:Mem),e=.returned (.tuple #[.slice b m d,.int .i64 rv])∧Mem.le I J∧bZ.rel J [.slice b m d] E∧Sat W w' (sep (kn J) A):=⟨_,rfl⟩
 rw[←dS];have bK:=ah dS;have HX:=ah (aH hv (aH hB (aH hok (aH hn dQ))));have HLEN:=ah hlen;clear hv hB hok hn h hE dQ dS hlen;by_cases hb0:rv=0
 ·subst hb0
  have afH:=(uG HX.out.2.2.2.2.symm).1;have hn32:(n:Int)≤32:=by have:=HX.out.2.2.2.1;omega
  have hbody:∀(k:Nat) x,l[k]?=some x→kQ x.body=0∧x.refs.length≤8:=fun k x hx=>by
   obtain⟨hk,e⟩:=qM hx;have:=(uG HX.out.2.2.2.2.symm).2 k hk;rw[e] at this;exact⟨this.2.2,this.1⟩
  obtain⟨V,hV⟩:∃V:Nat→List UInt8,V=fun k=>PA.encI (n:Int)++((l.take k).map oL).flatten:=⟨_,rfl⟩
  have hV0:([]:List UInt8)++PA.encI (n:Int)=V 0:=by rw[hV];simp
  have BM:∀k x,l[k]?=some x→V (k+1)=V k++gu x.refs++encR (dw x.body):=fun k x hx=>by
   rw[hV];simp only;rw[nT oL hx];unfold oL;simp only[kZ]
  have hVn:V n=E:=by rw[hV,kY.out.2 rfl];simp only;rw[HX.out.2.2.2.1,List.take_length];rfl
  have BL:∀k,(V k).length≤134217728:=fun k=>by
   rw[hV];simp only;have h1:=vN oL l k;have h2:=HLEN.out;unfold gJ oM at h2;rw[dM] at h2 ⊢;rw[HX.out.2.2.2.1];omega
  have HVV:=ah (aH hV0 (aH BM (aH hVn BL)));have HBO:=ah hbody;clear hV hV0 BM hVn BL hbody afH;go_enter Tryz.func76,Tryz.ntmps76;go_wp2_with fail;refine wK.out.mono ?_;rintro e w2 ⟨rfl,h2⟩;have h3:=Qn h2;obtain⟨P,hP⟩:=aC (w2.heap.size);obtain⟨w3,hw3⟩:=aC (w2.alloc (.cells #[.slice none 0 0] 104));rw[←hP,←hw3] at h3;have hw:=iV P [] (n:Int) (by omega) (by omega) h3 (by simp);rw[HVV.out.1] at hw;have KY:=ah hw;have HP:=ah (aH hP hw3);clear h2 h3 hP hw3 hw wK;go_upto_region 5 with fail;rw[←HP.out.1,←HP.out.2];go_wp2_with fail;refine KY.out.mono ?_;rintro e w4 ⟨rfl,h4⟩;have H4:=ah h4;clear h4 KY HP;go_wp2_with fail;go_loopw [23] (fun iv wr=>∃(k:Nat) (J:Mem),iv=.int .i64 k∧k≤n∧Hid (Mem.le I J)∧Sat W wr (sep (dP P (V k)) (sep (kn J) A))) (fun iv _=>n-(intOf iv).toNat)
  case atStart=>exact⟨0,I,rfl,by omega,ah (bW _),H4.out⟩
  case round=>
   obtain⟨k,J,rfl,hk,HJ,hS⟩:=hrel;clear H4;by_cases hlt:k<n
   ·as_aux_lemma=>
    have hltz:(k:Int)<(n:Int):=by omega
    obtain⟨x,hx⟩:∃x,l[k]?=some x:=⟨_,iM (by have:=HX.out.2.2.2.1;omega)⟩
    obtain⟨b,o,ra,rc,p,q,x1,n1,c1,x2,n2,c2,rfl,hrr,hrb,hcell⟩:=vH HX.out.1 hx;have hxm:=mZ hx;obtain⟨hbe,hr8⟩:=HBO.out k x hx;have hxo:=HX.out.2.2.1 x hxm;obtain⟨j0,j1,j2,j3,j4⟩:=hcell wr (fun g u hb=>hS.p1.ext g u (HJ.out g u hb));have hvs:=HVV.out.2.1 k x hx;have hvl:=HVV.out.2.2.2 k;have hE0:gK x.body=dw x.body:=by unfold gK;rw[if_pos hbe]
    obtain⟨nr,hnr⟩:=aC (x.refs.length);rw[←hnr] at hrr j0 hr8;have hAl:=hS.alloc (.cells #[.slice ra nr rc,.int .i64 p,.int .i64 q,.slice x1 n1 c1,.slice x2 n2 c2] 91);obtain⟨M,hM⟩:=aC (wr.heap.size);obtain⟨w5,hw5⟩:=aC (wr.alloc (.cells #[.slice ra nr rc,.int .i64 p,.int .i64 q,.slice x1 n1 c1,.slice x2 n2 c2] 91));rw[←hM,←hw5] at hAl;obtain⟨k0,k1,k2,k3,k4⟩:=cl5 hAl;have hfe:=qL x.body p q x1 n1 c1 x2 n2 c2 (rF.mono HJ.out hrb) (HX.out.2.1 x hxm) hxo.b64 (show Sat W w5 (sep (kn J) (sep (blk M (.cells #[.slice ra nr rc,.int .i64 p,.int .i64 q,.slice x1 n1 c1,.slice x2 n2 c2] 91 (0,0))) (sep (dP P (V k)) A))) by simpa only[aA,au,aj] using hAl);rw[hbe,hE0] at hfe;have xw:=ah hfe;have IX:=ah (aH hM hw5);have HK:=ah (aH hlt (aH hvs (aH hvl (aH hxo hnr))));have HRR:=ah hrr;clear hrr hrb hcell hxm hbe hxo hvs hvl hE0 hAl hM hw5 hfe hlt hk hS hnr hx;go_upto_region 9 with fail;rw[←IX.out.1,←IX.out.2];clear j0 j1 j2 j3 j4;go_wp2_with fail;refine xw.out.mono ?_;rintro e w6 ⟨fb,fl,fc,J2,rfl,hle2,Em,h6⟩;clear k0 k1 k2 k3 k4 xw;have h7:Sat W w6 (sep (blk M (.cells #[.slice ra nr rc,.int .i64 p,.int .i64 q,.slice x1 n1 c1,.slice x2 n2 c2] 91 (0,0))) (sep (dP P (V k)) (sep (kn J2) A))):=dI h6;obtain⟨k0,-,-,-,-⟩:=cl5 h7;have hws:=Bj P (V k) ra nr rc x.refs HK.out.2.2.2.2 (by have:=HK.out.2.2.2.2;omega) HK.out.2.2.2.1.r64 (fun w' B hs j r hr=>by
     obtain⟨rb,ro,e,hrc⟩:=l9 HRR.out hr;exact⟨rb,ro,e,hrc w' (fun g u hb=>(show Sat W w' (sep (kn J2) (sep B A)) by simpa only[aA,au,aj] using hs).ext g u (hle2 g u (HJ.out g u hb)))⟩) (show Sat W w6 (sep (dP P (V k)) (sep (kn J2) A)) from h7.forget) (by have:=HK.out.2.2.1;omega)
    have HWS:=ah hws;have H2:=ah (aH hle2 Em);clear h6 h7 hle2 Em hws;go_upto_region 12 with fail;go_wp2_with fail;refine HWS.out.mono ?_;rintro e w7 ⟨rfl,h8⟩;have hel:(gu x.refs).length≤200:=by
     have h1:=vK (l:=x.refs) (by have:=HK.out.2.2.2.2;omega) HK.out.2.2.2.1.r64 x.refs.length;rw[qV] at h1;have:=HK.out.2.2.2.2;omega
    have hwr:=oz P (V k++gu x.refs) (.slice fb fl fc) (dw x.body) h8 H2.out.2 (by rw[dM];have:=HK.out.2.2.1;omega) (by have:=HK.out.2.2.2.1.bl;omega);rw[←HK.out.2.1] at hwr;have KZ:=ah hwr;clear h8 hwr hel HWS k0;go_wp2_with fail;refine KZ.out.mono ?_;rintro e w8 ⟨rfl,h9⟩;have H9:=ah h9;clear h9 KZ;go_wp2;go_roundw;case rel=>exact⟨k+1,J2,by go_num,by have:=HK.out.1;omega,ah (eG HJ.out H2.out.1),H9.out⟩
    case measure=>simp[intOf];have:=HK.out.1;omega
   ·obtain rfl:k=n:=by omega
    rw[HVV.out.2.2.1] at hS;have hEl:E.length≤134217728:=by rw[←HVV.out.2.2.1];exact HVV.out.2.2.2 k
    have HD:=ah (pG P E hS (by omega));clear hS hlt hk hEl;go_wp2_with fail;refine HD.out.mono ?_;rintro e w5 ⟨a5,c5,rfl,h5⟩;have h6:Sat W w5 (sep (aT 5 1 a5 E.length c5 (E.map bv)) (sep (kn J) A)):=FM (by simpa only[aA,au,aj] using h5);obtain⟨J3,hle3,hr3,h7⟩:=iK h6 rfl;have HF:=ah (aH (eG HJ.out hle3) (aH hr3 h7));clear h5 h6 hle3 hr3 h7 HD;go_wp2;rw[bK.out];exact⟨a5,E.length,c5,J3,rfl,HF.out.1,HF.out.2.1,HF.out.2.2⟩
 ·have IW:=ah (kY.out.1 hb0)
  have hb1:(rv !=0)=true:=by simpa using hb0
  have hb2:(rv==0)=false:=by simpa using hb0
  clear kY hb0;go_enter Tryz.func76,Tryz.ntmps76;go_wp2_with fail;refine wK.out.mono ?_;rintro e w2 ⟨rfl,h2⟩;have HF:=ah h2;clear h2 wK;go_wp2;rw[bK.out];exact⟨none,0,0,I,rfl,bW I,by rw[IW.out];exact jq I,HF.out⟩
set_option maxRecDepth 100000 in
set_option maxHeartbeats 8000000 in
theorem Gv {W w:World} {A:aB} {I:Mem} (ta:Option Addr) (tn tc:Nat) (ca:Option Addr) (cn cc:Nat) (td:List Fm) (cl:List Cl) (ht:(rF.slice 4).rel I [.slice ta tn tc] td) (hc:(lM.slice 5).rel I [.slice ca cn cc] cl) (hT:∀f∈td,KQ f) (hB:∀x∈cl,KQ x.body)
 (hTO:∀f∈td,SK f) (hCO:∀x∈cl,FW x) (hlen:(nG td cl).length≤268435456) (hlc:(gJ cl).length≤134217728) (h:Sat W w (sep (kn I) A)):
 Calls Tryz.prog 73 #[.agg #[.slice ta tn tc,.slice ca cn cc]] w fun e w'=>∃(b:Option Addr) (m d:Nat) (J:Mem),e=.returned (.tuple #[.slice b m d,.int .i64 (FT td cl)])∧Mem.le I J∧bZ.rel J [.slice b m d] (jV td cl)∧Sat W w' (sep (kn J) A):=by
 have htn:=(aJ ht).1;have abK:=(aJ ht).2.2;have h1:=h.alloc (.cells #[.slice ta tn tc,.slice ca cn cc] 30);obtain⟨B,hBb⟩:=aC (w.heap.size);obtain⟨w1,hw1⟩:=aC (w.alloc (.cells #[.slice ta tn tc,.slice ca cn cc] 30));rw[←hBb,←hw1] at h1;have U4:=ah (aH hBb hw1);obtain⟨k0,k1,-,-⟩:=kX h1;have wK:=ah (yR ta tn tc ca cn cc td cl ht hc hT hB h1.p1);obtain⟨rv,dQ⟩:=aC (FT td cl);obtain⟨E,hE⟩:=aC (jV td cl);have kY:Hid ((rv≠0→E=[])∧(rv=0→E=nG td cl)):=ah ⟨fun h0=>by rw[hE];unfold jV;rw[if_neg (by rw[←dQ];exact h0)],fun h0=>by rw[hE];unfold jV;rw[if_pos (by rw[←dQ];exact h0)]⟩;rw[←dQ] at wK ⊢;rw[←hE];obtain⟨Po,dS⟩:∃P:Ending→World→Prop,P=fun e w'=>∃(b:Option Addr) (m d:Nat) (J:Mem),e=.returned (.tuple #[.slice b m d,.int .i64 rv])∧Mem.le I J∧bZ.rel J [.slice b m d] E∧Sat W w' (sep (kn J) A):=⟨_,rfl⟩
 rw[←dS];have bK:=ah dS;have HX:=ah (aH ht (aH hc (aH hT (aH hB (aH hTO (aH hCO htn))))));have HLEN:=ah (aH hlen hlc);clear ht hc hT hB hTO hCO htn h h1 hBb hw1 hE dQ dS hlen hlc;by_cases hb0:rv=0
 ·subst hb0
  have hEn:E=nG td cl:=kY.out.2 rfl;have htl:tn≤268435456:=by
   have key:∀l:List Fm,l.length≤(tJ l).length:=by
    intro l
    induction l with
    | nil=>simp
    | cons g l ih=>
     unfold tJ at ih ⊢;rw[mM,List.flatten_cons,dM,oP];have:1≤(encR (gK g)).length:=by
      unfold encR;rw[dM];have:=uvarint_pos (gK g).length;omega
     omega
   have h1:=key td;have h2:=HLEN.out.1;unfold nG at h2;simp only[dM] at h2;rw[HX.out.2.2.2.2.2.2];omega
  obtain⟨V,hV⟩:∃V:Nat→List UInt8,V=fun k=>PA.encI (tn:Int)++((td.take k).map fun f=>encR (gK f)).flatten:=⟨_,rfl⟩
  have hV0:([]:List UInt8)++PA.encI (tn:Int)=V 0:=by rw[hV];simp
  have BM:∀k x,td[k]?=some x→V (k+1)=V k++encR (gK x):=fun k x hx=>by
   rw[hV];simp only;rw[nT (fun f=>encR (gK f)) hx,kZ]
  have hVn:V tn++encR (gX cl)=E:=by rw[hV,hEn];simp only;rw[HX.out.2.2.2.2.2.2,List.take_length];rfl
  have BL:∀k,(V k).length≤268435456:=fun k=>by
   rw[hV];simp only;have h1:=vN (fun f=>encR (gK f)) td k;have h2:=HLEN.out.1;unfold nG tJ at h2;simp only[dM] at h2 ⊢;rw[HX.out.2.2.2.2.2.2];omega
  have hEl:E.length≤268435456:=by rw[hEn];exact HLEN.out.1
  have HVV:=ah (aH hV0 (aH BM (aH hVn (aH BL hEl))));clear hV hV0 BM hVn BL hEn hEl;go_enter Tryz.func73,Tryz.ntmps73;go_upto_region 1 with fail;rw[←U4.out.1,←U4.out.2];go_wp2_with fail;refine wK.out.mono ?_;rintro e w2 ⟨J,rfl,hle,h2⟩;have h3:=Qn h2;obtain⟨P,hP⟩:=aC (w2.heap.size);obtain⟨w3,hw3⟩:=aC (w2.alloc (.cells #[.slice none 0 0] 104));rw[←hP,←hw3] at h3;have h4:Sat W w3 (sep (dP P []) (sep (kn J) (sep (blk B (.cells #[.slice ta tn tc,.slice ca cn cc] 30 (0,0))) A))):=h3;have hw:=iV P [] (tn:Int) (by omega) (by omega) h4 (by simp);rw[HVV.out.1] at hw;have KY:=ah hw;have HP:=ah (aH hP hw3);have iL:=ah hle;clear k0 k1;obtain⟨k0,k1,-,-⟩:=kX h4.p2;clear h2 h3 h4 hP hw3 hw wK hle;go_upto_region 5 with fail;rw[←HP.out.1,←HP.out.2];go_wp2_with fail;refine KY.out.mono ?_;rintro e w4 ⟨rfl,h5⟩;clear k0 k1;obtain⟨k0,k1,-,-⟩:=kX h5.p2;have H5:=ah h5;clear h5 KY HP;go_upto_block 0 with fail;clear k0 k1;go_wp2_with fail;go_loopw [24] (fun iv wr=>∃(k:Nat) (J2:Mem),iv=.int .i64 k∧k≤tn∧Hid (Mem.le J J2)∧Sat W wr (sep (dP P (V k)) (sep (kn J2) (sep (blk B (.cells #[.slice ta tn tc,.slice ca cn cc] 30 (0,0))) A)))) (fun iv _=>tn-(intOf iv).toNat)
  case atStart=>exact⟨0,J,rfl,by omega,ah (bW _),H5.out⟩
  case round=>
   obtain⟨k,J2,rfl,hk,HJ,hS⟩:=hrel;clear H5;by_cases hlt:k<tn
   ·as_aux_lemma=>
    have hltz:(k:Int)<(tn:Int):=by omega
    obtain⟨f,hf⟩:∃f,td[k]?=some f:=⟨_,iM (by have:=HX.out.2.2.2.2.2.2;omega)⟩
    obtain⟨b,o,p,q,x1,n1,c1,x2,n2,c2,rfl,hrf,hcell⟩:=gY HX.out.1 hf;have hfm:=mZ hf;have P5:Mem.le I J2:=eG iL.out HJ.out;obtain⟨j0,j1,j2,j3⟩:=hcell wr (fun g u hb=>hS.p1.ext g u (P5 g u hb));have hvs:=HVV.out.2.1 k f hf;have hvl:=HVV.out.2.2.2.1 k;have hAl:=hS.alloc (.cells #[.int .i64 p,.int .i64 q,.slice x1 n1 c1,.slice x2 n2 c2] 34);obtain⟨M,hM⟩:=aC (wr.heap.size);obtain⟨w5,hw5⟩:=aC (wr.alloc (.cells #[.int .i64 p,.int .i64 q,.slice x1 n1 c1,.slice x2 n2 c2] 34));rw[←hM,←hw5] at hAl;obtain⟨k0,k1,k2,k3⟩:=lH hAl;have hfe:=qL f p q x1 n1 c1 x2 n2 c2 (rF.mono P5 hrf) (HX.out.2.2.1 f hfm) (HX.out.2.2.2.2.1 f hfm).b64 (show Sat W w5 (sep (kn J2) (sep (blk M (.cells #[.int .i64 p,.int .i64 q,.slice x1 n1 c1,.slice x2 n2 c2] 34 (0,0))) (sep (dP P (V k)) (sep (blk B (.cells #[.slice (some ⟨b,o,none⟩) tn tc,.slice ca cn cc] 30 (0,0))) A)))) by simpa only[aA,au,aj] using hAl);have hfl:=kU (HX.out.2.2.2.2.1 f hfm).bl;obtain⟨fv,hfv⟩:=aC (kQ f);rw[←hfv] at hfe;have xw:=ah hfe;have IX:=ah (aH hM hw5);have HK:=ah (aH hlt (aH hvs (aH hvl hfl)));clear hrf hcell hfm hvs hvl hAl hM hw5 hfe hlt hk hS hf hfl hfv P5;go_upto_region 9 with fail;rw[←IX.out.1,←IX.out.2];clear j0 j1 j2 j3;go_wp2_with fail;refine xw.out.mono ?_;rintro e w6 ⟨fb,fl,fc,J3,rfl,hle3,MK,h6⟩;clear k0 k1 k2 k3 xw;have h7:Sat W w6 (sep (dP P (V k)) (sep (kn J3) (sep (blk B (.cells #[.slice (some ⟨b,o,none⟩) tn tc,.slice ca cn cc] 30 (0,0))) A))):=by
     have h8:Sat W w6 (sep (blk M (.cells #[.int .i64 p,.int .i64 q,.slice x1 n1 c1,.slice x2 n2 c2] 34 (0,0))) (sep (dP P (V k)) (sep (kn J3) (sep (blk B (.cells #[.slice (some ⟨b,o,none⟩) tn tc,.slice ca cn cc] 30 (0,0))) A)))):=dI h6;exact h8.forget
    have hwr:=oz P (V k) (.slice fb fl fc) (gK f) h7 MK (by have:=HK.out.2.2.1;omega) (by have:=HK.out.2.2.2;omega);rw[←HK.out.2.1] at hwr;have KZ:=ah hwr;have H3:=ah hle3;clear h6 h7 hle3 MK hwr;go_wp2_with fail;refine KZ.out.mono ?_;rintro e w8 ⟨rfl,h9⟩;have H9:=ah h9;clear h9 KZ;go_wp2;go_roundw;case rel=>exact⟨k+1,J3,by go_num,by have:=HK.out.1;omega,ah (eG HJ.out H3.out),H9.out⟩
    case measure=>simp[intOf];have:=HK.out.1;omega
   ·obtain rfl:k=tn:=by omega
    have P5:Mem.le I J2:=eG iL.out HJ.out;obtain⟨k0,k1,-,-⟩:=kX hS.p2;have hce:=wU ca cn cc cl ((lM.slice 5).mono P5 HX.out.2.1) HX.out.2.2.2.1 HX.out.2.2.2.2.2.1 HLEN.out.2 (show Sat W wr (sep (kn J2) (sep (dP P (V k)) (sep (blk B (.cells #[.slice ta k tc,.slice ca cn cc] 30 (0,0))) A))) from hS.p1);obtain⟨cv,hcv⟩:=aC (qQ cl);rw[←hcv] at hce;have FY:=ah hce;have HL:=ah (aH P5 (HVV.out.2.2.2.1 k));clear hS hlt hk hce hcv P5;go_upto_region 12 with fail;go_wp2_with fail;refine FY.out.mono ?_;rintro e w5 ⟨fb,fl,fc,J3,rfl,hle3,MK,h6⟩;have hwr:=oz P (V k) (.slice fb fl fc) (gX cl) (show Sat W w5 (sep (dP P (V k)) (sep (kn J3) (sep (blk B (.cells #[.slice ta k tc,.slice ca cn cc] 30 (0,0))) A))) from h6.p1) MK (by have:=HL.out.2;omega) (by have:=jr HLEN.out.2;omega);rw[HVV.out.2.2.1] at hwr;have KZ:=ah hwr;have H3:=ah hle3;clear h6 hle3 MK hwr FY k0 k1;go_wp2_with fail;refine KZ.out.mono ?_;rintro e w6 ⟨rfl,h7⟩;have hdn:=pG P E h7 (by have:=HVV.out.2.2.2.2;omega);have HD:=ah hdn;clear h7 hdn KZ;go_wp2_with fail;refine HD.out.mono ?_;rintro e w7 ⟨a5,c5,rfl,h8⟩;have h9:Sat W w7 (sep (aT 5 1 a5 E.length c5 (E.map bv)) (sep (kn J3) (sep (blk B (.cells #[.slice ta k tc,.slice ca cn cc] 30 (0,0))) A))):=FM (by simpa only[aA,au,aj] using h8);obtain⟨J4,jE,hr4,h10⟩:=iK h9 rfl;have HF:=ah (aH (eG HL.out.1 (eG H3.out jE)) (aH hr4 h10.p1.drop));clear h8 h9 jE hr4 h10 HD;go_wp2;rw[bK.out];exact⟨a5,E.length,c5,J4,rfl,HF.out.1,HF.out.2.1,HF.out.2.2⟩
 ·have IW:=ah (kY.out.1 hb0)
  have hb1:(rv !=0)=true:=by simpa using hb0
  have hb2:(rv==0)=false:=by simpa using hb0
  clear kY hb0;go_enter Tryz.func73,Tryz.ntmps73;go_upto_region 1 with fail;rw[←U4.out.1,←U4.out.2];go_wp2_with fail;refine wK.out.mono ?_;rintro e w2 ⟨J,rfl,hle,h2⟩;have HF:=ah (aH hle h2.p1.drop);clear h2 wK k0 k1 hle;go_wp2;rw[bK.out];exact⟨none,0,0,J,rfl,HF.out.1,by rw[IW.out];exact jq J,HF.out.2⟩
set_option maxHeartbeats 4000000 in
theorem EW {W w:World} {A:aB} {I:Mem} (ta:Option Addr) (tn tc:Nat) (ca:Option Addr) (cn cc:Nat) (td:List Fm) (cl:List Cl) (ht:(rF.slice 4).rel I [.slice ta tn tc] td) (hc:(lM.slice 5).rel I [.slice ca cn cc] cl) (hT:∀f∈td,f.size≤nN) (hB:∀x∈cl,x.body.size≤nN)
 (hTO:∀f∈td,SK f) (hCO:∀x∈cl,FW x) (hlen:(nG td cl).length≤268435456) (hlc:(gJ cl).length≤134217728) (h:Sat W w (sep (kn I) A)):
 Calls Tryz.prog 81 #[.agg #[.slice ta tn tc,.slice ca cn cc]] w fun e w'=>∃(b:Option Addr) (m d:Nat) (J:Mem),e=.returned (.tuple #[.slice b m d,.int .i64 (FT td cl)])∧Mem.le I J∧bZ.rel J [.slice b m d] (jV td cl)∧Sat W w' (sep (kn J) A):=by
 have htn:=(aJ ht).1;have abK:=(aJ ht).2.2;have h1:=h.alloc (.cells #[.slice ta tn tc,.slice ca cn cc] 30);obtain⟨B,hBb⟩:=aC (w.heap.size);obtain⟨w1,hw1⟩:=aC (w.alloc (.cells #[.slice ta tn tc,.slice ca cn cc] 30));rw[←hBb,←hw1] at h1;have vk:=ah (aH hBb hw1);have k0:w1.cell? ⟨B,0,none⟩=some (.slice ta tn tc):=by rw[h1.cell 0];rfl
 have k1:w1.cell? ⟨B,1,none⟩=some (.slice ca cn cc):=by rw[h1.cell 1];rfl
 obtain⟨X,hX⟩:=aC (sep (blk B (.cells #[.slice ta tn tc,.slice ca cn cc] 30 (0,0))) A);have HX:Hid (∀w' J Y,Sat W w' (sep Y (sep (kn J) X))→w'.cell? ⟨B,0,none⟩=some (.slice ta tn tc)∧w'.cell? ⟨B,1,none⟩=some (.slice ca cn cc)):=ah fun w' J Y h'=>by
  rw[hX] at h';have h2:=h'.drop.p1;exact⟨by rw[h2.cell 0];rfl,by rw[h2.cell 1];rfl⟩
 have HXD:Hid (∀w' J,Sat W w' (sep (kn J) X)→Sat W w' (sep (kn J) A)∧w'.cell? ⟨B,0,none⟩=some (.slice ta tn tc)∧w'.cell? ⟨B,1,none⟩=some (.slice ca cn cc)):=ah fun w' J h'=>by
  rw[hX] at h';have h2:=h'.p1;exact⟨h2.drop,by rw[h2.cell 0];rfl,by rw[h2.cell 1];rfl⟩
 have h1':Sat W w1 (sep (kn I) X):=by rw[hX];simpa only[aA,au,aj] using h1
 obtain⟨rv,dQ⟩:=aC (FT td cl);obtain⟨E,hE⟩:=aC (nG td cl);obtain⟨E0,hE0⟩:=aC (jV td cl);obtain⟨ce,hce⟩:=aC (qQ cl);obtain⟨F,hF⟩:=aC (gX cl);have wF:Hid (∀w' A',Sat W w' (sep (kn I) A')→Calls Tryz.prog 138 #[.agg #[.slice ta tn tc,.slice ca cn cc]] w' fun e w''=>∃J,e=.returned (.int .i64 rv)∧Mem.le I J∧Sat W w'' (sep (kn J) A')):=ah fun w' A' h'=>by rw[dQ];exact wY ta tn tc ca cn cc td cl ht hc hT hB h'
 have FY:Hid (∀w' A' J,Mem.le I J→Sat W w' (sep (kn J) A')→Calls Tryz.prog 84 #[.slice ca cn cc] w' fun e w''=>∃(b:Option Addr) (m d:Nat) (J2:Mem),e=.returned (.tuple #[.slice b m d,.int .i64 ce])∧Mem.le J J2∧bZ.rel J2 [.slice b m d] F∧Sat W w'' (sep (kn J2) A')):=ah fun w' A' J hl h'=>by rw[hce,hF];exact uX ca cn cc cl ((lM.slice 5).mono hl hc) hB hCO hlc h'
 have IW:Hid ((rv=0→E0=E)∧(rv≠0→E0=[])):=ah ⟨fun h0=>by rw[hE0,hE];unfold jV;rw[if_pos (by rw[←dQ];exact h0)],fun h0=>by rw[hE0];unfold jV;rw[if_neg (by rw[←dQ];exact h0)]⟩;have hFl:F.length≤134217728:=by rw[hF];exact jr hlc
 obtain⟨V,hV⟩:∃V:Nat→List UInt8,V=fun j=>PA.encI tn++tJ (td.take j):=⟨_,rfl⟩
 have hV0:V 0=PA.encI tn:=by rw[hV];simp[tJ]
 have BM:∀j g,td[j]?=some g→V (j+1)=V j++encR (gK g):=fun j g hg=>by
  rw[hV];simp only;unfold tJ;rw[nT (fun f=>encR (gK f)) hg];simp only[kZ]
 have hVe:V tn++encR F=E:=by rw[hV,hE,hF];simp only;rw[htn,List.take_length];rfl
 have hEl:E.length≤268435456:=by rw[hE];exact hlen
 have BL:∀j,(V j).length≤268435456:=fun j=>by
  rw[hV];simp only[dM];have:=vN (fun f=>encR (gK f)) td j;unfold nG at hlen;rw[dM,dM,←htn] at hlen;unfold tJ at hlen ⊢;omega
 have ahK:tn≤268435456:=by
  have key:∀l:List Fm,l.length≤(tJ l).length:=by
   intro l
   induction l with
   | nil=>simp
   | cons g l ih=>
    unfold tJ at ih ⊢;rw[mM,List.flatten_cons,dM,oP];have:1≤(encR (gK g)).length:=by
     unfold encR;simp only[dM];have:=uvarint_pos (gK g).length;omega
    omega
  have:=key td;unfold nG at hlen;rw[dM,dM] at hlen;omega
 have hb0:=eP (r:=(tn:Int)) (by omega) (by omega);have HVL:=ah (aH BL hEl);have HV:=ah (aH hV0 (aH BM hVe));have HTT:=ah (aH ht (aH hT hTO));have HN:=ah htn;have KT:=ah hFl;have H1:=ah h1';rw[←dQ,←hE0];obtain⟨Po,dS⟩:∃P:Ending→World→Prop,P=fun e w'=>∃(b:Option Addr) (m d:Nat) (J:Mem),e=.returned (.tuple #[.slice b m d,.int .i64 rv])∧Mem.le I J∧bZ.rel J [.slice b m d] E0∧Sat W w' (sep (kn J) A):=⟨_,rfl⟩
 rw[←dS];have bK:=ah dS;clear ht hc hT hB hTO hCO hlen hlc h h1 h1' hBb hw1 hX dQ hE hE0 hce hF hFl hV hV0 BM hVe hEl BL htn dS;by_cases hr0:rv=0
 ·subst hr0
  have HEE:=ah (IW.out.1 rfl);clear IW;go_enter Tryz.func81,Tryz.ntmps81;go_upto_region 1 with fail;rw[←vk.out.1,←vk.out.2];go_wp2_with fail;refine (wF.out _ _ H1.out).mono ?_;rintro e w2 ⟨J,rfl,hle,h2⟩;have HJ:=ah hle;have H2:=ah h2;clear h2 hle wF k0 k1 H1;obtain⟨-,k0,k1⟩:=HXD.out _ _ H2.out;go_upto_region 4 with fail;go_wp2_with fail;refine (iT (tn:Int) (by omega) (by omega) H2.out).mono ?_;rintro e w3 ⟨a1,c1,rfl,h3⟩;obtain⟨m,hm⟩:=aC ((PA.encI tn).length);obtain⟨vs,hvs⟩:=aC ((PA.encI tn).map bv);rw[←hm,←hvs] at h3;rw[←hm];have HM:=ah (aH hm hvs);have H3:=ah h3;clear hm hvs h3 H2 hb0 k0 k1;go_wp2_with fail;go_loopw [5,6] (fun ov kv wr=>∃(k:Nat) (a':Option Addr) (n' c':Nat) (vs:List Value) (J:Mem),ov=.slice a' n' c'∧kv=.int .i64 k∧k≤tn∧Hid (n'=(V k).length∧vs=(V k).map bv∧Mem.le I J)∧Sat W wr (sep (aT 5 1 a' n' c' vs) (sep (kn J) X))) (fun _ kv _=>tn-(intOf kv).toNat)
  case atStart=>exact⟨0,a1,m,c1,vs,J,rfl,rfl,by omega,ah ⟨by rw[HM.out.1,HV.out.1],by rw[HM.out.2,HV.out.1],HJ.out⟩,H3.out⟩
  case round=>
   obtain⟨k,a',n',c',vs',J',rfl,rfl,hk,HVV,hS⟩:=hrel;clear H3;obtain⟨k0,k1⟩:=HX.out _ _ _ hS;by_cases hlt:k<tn
   ·have hltz:(k:Int)<(tn:Int):=by omega
    obtain⟨g,hg⟩:∃g,td[k]?=some g:=⟨_,iM (by have:=HN.out;omega)⟩
    have hgm:g∈td:=mZ hg;obtain⟨b,o,p,q,x1,n1,d1,x2,n2,d2,rfl,hrb,hcell⟩:=gY HTT.out.1 hg;obtain⟨j0,j1,j2,j3⟩:=hcell wr (sD HVV.out.2.2 hS.p1.ext);obtain⟨fe,hfe⟩:=aC (kQ g);obtain⟨G,hG⟩:=aC (gK g);have hcall:=uV (W:=W) (w:=wr) (A:=sep (aT 5 1 a' n' c' vs') X) (I:=J') g p q x1 n1 d1 x2 n2 d2 (rF.mono HVV.out.2.2 hrb) (HTT.out.2.1 g hgm) (HTT.out.2.2 g hgm).b64 (by have:=(HTT.out.2.2 g hgm).bl;omega) (by simpa only[aA,au,aj] using hS);rw[←hfe,←hG] at hcall;have hGl:G.length≤16777216:=by rw[hG];exact kU (HTT.out.2.2 g hgm).bl
    obtain⟨m2,hm2⟩:=aC ((encR G).length);obtain⟨v2,hv2⟩:=aC ((encR G).map bv);have hb1:n'+m2≤268435456:=by
     have h1:=HVL.out.1 (k+1);rw[HV.out.2.1 k g hg,dM,←HVV.out.1,←hG,←hm2] at h1;exact h1
    have rP:Hid (V (k+1)=V k++encR G∧k<tn):=ah ⟨by rw[hG];exact HV.out.2.1 k g hg,hlt⟩;have tu:=ah (aH hm2 hv2);have FP:=ah hcall;have HB1:=ah (aH hb1 hGl);clear hg hgm hrb hcell hfe hG hcall hGl hm2 hv2 hb1 hlt hk hS;go_upto_region 8 with fail;go_wp2_with fail;refine FP.out.mono ?_;rintro e w4 ⟨b4,m4,d4,J2,rfl,hle2,hr2,h4⟩;have HJ2:=ah (aH hle2 hr2);have H4:=ah h4;clear h4 hle2 hr2 FP k0 k1 j0 j1 j2 j3;go_upto_region 9 with fail;go_wp2_with fail;refine (og (.slice b4 m4 d4) G H4.out HJ2.out.2 (by have:=HB1.out;omega)).mono ?_;rintro e w5 ⟨a5,c5,rfl,h5⟩;rw[←tu.out.1,←tu.out.2] at h5;rw[←tu.out.1];have jK:Hid (pX w5 a5 m2 v2):=ah (by rw[tu.out.2,tu.out.1] at h5 ⊢;exact jC h5);have h6:Sat W w5 (sep (aT 5 1 a' n' c' vs') (sep (kn J2) X)):=by have:=h5.drop;simpa only[aA,au,aj] using this
    clear h5 H4;go_wp2_with (at_builtin;(refine aK rfl (.tmp 36) (.tmp 38) 51 rfl 5 1 1 (.int .u8 0) Tryz.underlying51 fB rfl rfl h6 rfl v2 jK.out.len jK.out.nil jK.out.src jK.out.one (by have:=HB1.out;omega) (by have:=HB1.out;unfold maxLen;omega) ?_))
    intro a7 c7 w7 h9;have H9:=ah h9;clear h6 h9 jK;go_wp2_with fail;go_roundw;case rel=>
     refine⟨k+1,a7,n'+m2,c7,_,J2,rfl,by go_num,by have:=rP.out.2;omega,ah ⟨?_,?_,eG HVV.out.2.2 HJ2.out.1⟩,H9.out⟩
     ·rw[rP.out.1,dM,HVV.out.1,tu.out.1]
     ·rw[rP.out.1,qy,HVV.out.2.1,tu.out.2]
    case measure=>simp[intOf];have:=rP.out.2;omega
   ·obtain rfl:k=tn:=by omega
    have hb1:n'+(encR F).length=E.length:=by rw[HVV.out.1,←dM,HV.out.2.2]
    have hb2:vs'++(encR F).map bv=E.map bv:=by rw[HVV.out.2.1,←qy,HV.out.2.2]
    obtain⟨m2,hm2⟩:=aC ((encR F).length);obtain⟨v2,hv2⟩:=aC ((encR F).map bv);rw[←hm2] at hb1;rw[←hv2] at hb2;have tu:=ah (aH hm2 (aH hv2 (aH hb1 hb2)));have hS2:Sat W wr (sep (kn J') (sep (aT 5 1 a' n' c' vs') X)):=dI hS;have HJL:=ah HVV.out.2.2;have HS2:=ah hS2;clear hS hS2 hb1 hb2 hm2 hv2 hlt hk HVV;go_upto_region 10 with fail;go_wp2_with fail;refine (FY.out _ _ _ HJL.out HS2.out).mono ?_;rintro e w4 ⟨b4,m4,d4,J2,rfl,hle2,hr2,h4⟩;have HJ2:=ah (aH hle2 hr2);have H4:=ah h4;clear h4 hle2 hr2 FY k0 k1 HS2;go_upto_region 11 with fail;go_wp2_with fail;refine (og (.slice b4 m4 d4) F H4.out HJ2.out.2 (by have:=KT.out;omega)).mono ?_;rintro e w5 ⟨a5,c5,rfl,h5⟩;rw[←tu.out.1,←tu.out.2.1] at h5;rw[←tu.out.1];have jK:Hid (pX w5 a5 m2 v2):=ah (by rw[tu.out.2.1,tu.out.1] at h5 ⊢;exact jC h5);have h6:Sat W w5 (sep (aT 5 1 a' n' c' vs') (sep (kn J2) X)):=by have:=h5.drop;simpa only[aA,au,aj] using this
    clear h5 H4;go_wp2_with (at_builtin;(refine aK rfl (.tmp 46) (.tmp 48) 51 rfl 5 1 1 (.int .u8 0) Tryz.underlying51 fB rfl rfl h6 rfl v2 jK.out.len jK.out.nil jK.out.src jK.out.one (by have:=tu.out.2.2.1;have:=HVL.out.2;omega) (by have:=tu.out.2.2.1;have:=HVL.out.2;unfold maxLen;omega) ?_))
    intro a7 c7 w7 h9;have h10:Sat W w7 (sep (aT 5 1 a7 (n'+m2) c7 (E.map bv)) (sep (kn J2) X)):=by rw[←tu.out.2.2.2];exact h9
    obtain⟨J3,hle3,hr3,h11⟩:=iK h10 tu.out.2.2.1;have HF:=ah (aH hle3 (aH hr3 (HXD.out _ _ h11).1));clear h6 h9 h10 h11 hle3 hr3 jK;go_wp2;rw[bK.out];exact⟨a7,n'+m2,c7,J3,rfl,eG HJL.out (eG HJ2.out.1 HF.out.1),by rw[HEE.out];exact HF.out.2.1,HF.out.2.2⟩
 ·have HEE:=ah (IW.out.2 hr0)
  have hb1:(rv !=0)=true:=by simpa using hr0
  have hb2:(rv==0)=false:=by simpa using hr0
  clear IW hr0;go_enter Tryz.func81,Tryz.ntmps81;go_upto_region 1 with fail;rw[←vk.out.1,←vk.out.2];go_wp2_with fail;refine (wF.out _ _ H1.out).mono ?_;rintro e w2 ⟨J,rfl,hle,h2⟩;have HF:=ah (aH hle (HXD.out _ _ h2).1);clear h2 hle wF k0 k1 H1;go_wp2;rw[bK.out];exact⟨none,0,0,J,rfl,HF.out.1,by rw[HEE.out];exact jq J,HF.out.2⟩
end Go.Proofs.YthfmaclnccdcbaaGreatDoor

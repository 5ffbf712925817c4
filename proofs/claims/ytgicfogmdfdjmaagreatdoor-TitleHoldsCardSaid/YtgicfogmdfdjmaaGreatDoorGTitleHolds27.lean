/- Part of a proof. -/
import Derived.Test.YtgicfogmdfdjmaaGreatDoorGTitleHolds26
namespace PA
open Go Go.RowKit
theorem Q8 {l:List Fm} {j:Nat} {f:Fm} (h:l[j]?=some f):wL (l.drop j)=if qO f≠0 then qO f else wL (l.drop (j+1)):=by
 obtain⟨hj,rfl⟩:=List.getElem?_eq_some_iff.1 h
 rw[List.drop_eq_getElem_cons hj,wL]
theorem FU {l:List Cl} {k:Nat} (h:lX l k=none):∀n,k<n→o7 l n=none
 | 0,h0=>absurd h0 (Nat.not_lt_zero _)
 | n+1,h0=>by
  unfold o7
  rcases Nat.lt_succ_iff_lt_or_eq.1 h0 with h1|rfl
  ·rw[FU h n h1]
  ·rw[h];cases o7 l k<;>rfl
theorem N9 {l:List Cl} {n s:Nat} {y:List Fm} (h1:o7 l n=some s) (h2:lX l n=some y):o7 l (n+1)=some (s+y.length):=by
 unfold o7;rw[h1,h2]
end PA
namespace Go.Proofs.YtgicfogmdfdjmaaGreatDoor
open Go.RowKit PA
set_option maxHeartbeats 1000000 in
theorem Oa {W w:World} {A:aG} {I:Mem} (a:Option Addr) (n c:Nat) (l:List Cl) (hv:(oz.slice 5).rel I [.slice a n c] l) (hok:Cj l=0) (hB:∀x∈l,x.body.size≤pq) (k:Nat) (hk:k<l.length) (h:Sat W w (sep (kn I) A)):
 Calls Tryz.prog 179 #[.slice a n c,.int .i64 (k:Nat)] w fun e w'=>∃(b:Option Addr) (m d:Nat) (J:Mem),e=.returned (.tuple #[.slice b m d,.int .i64 (if (lX l k).isSome=true then 0 else 4)])∧Mem.le I J∧(∀y,lX l k=some y→m=y.length∧(rF.slice 4).rel J [.slice b m d] y)∧Sat W w' (sep (kn J) A):=by
 have hn:=(aU hv).1
 have hn63:=(aU hv).2.2
 have hvs:∀w' A',Sat W w' (sep (kn I) A')→Calls Tryz.prog 137 #[.slice a n c] w' fun e w''=>e=.returned (.int .i64 0)∧Sat W w'' (sep (kn I) A'):=fun w' A' h'=>by
  have:=kV a n c l hv hB h'
  rw[hok] at this;exact this
 have hcs:∀w' A',Sat W w' (sep (kn I) A')→Calls Tryz.prog 189 #[.slice a n c,.int .i64 (k:Nat)] w' fun e w''=>e=.returned (.int .i64 0)∧Sat W w'' (sep (kn I) A'):=fun w' A' h'=>by
  have HV:=ah (hvs w' A' h')
  have hkz:(k:Int)<(n:Int):=by omega
  have hk0:¬(k:Int)<0:=by omega
  clear hvs h' hv hB hok hn hk
  go_enter Tryz.func189,Tryz.ntmps189
  go_wp2_with fail
  refine HV.out.mono ?_
  rintro e w2 ⟨rfl,h2⟩
  have H2:=ah h2
  clear h2 HV
  go_wp2
  go_ret
  exact⟨rfl,H2.out⟩
 have nY:=ah (hcs w A h)
 have EO:=ah (fun w' (h':Sat W w' (sep (kn I) A))=>Ih a n c l hv hok k hk w' A I (Mem.le_refl _) h')
 obtain⟨av,hav⟩:=aC (lX l k)
 rw[←hav] at EO ⊢
 obtain⟨Po,iU⟩:∃P:Ending→World→Prop,P=fun e w'=>∃(b:Option Addr) (m d:Nat) (J:Mem),e=.returned (.tuple #[.slice b m d,.int .i64 (if av.isSome=true then 0 else 4)])∧Mem.le I J∧(∀y,av=some y→m=y.length∧(rF.slice 4).rel J [.slice b m d] y)∧Sat W w' (sep (kn J) A):=⟨_,rfl⟩
 rw[←iU]
 have dZ:=ah iU
 clear hvs hcs h hv hB hok hn hk hav iU
 go_enter Tryz.func179,Tryz.ntmps179
 go_wp2_with fail
 refine nY.out.mono ?_
 rintro e w2 ⟨rfl,h2⟩
 have H2:=ah h2
 clear h2 nY
 go_wp2_with fail
 refine (EO.out _ H2.out).mono ?_
 rintro e w3 ⟨b,m,d,J,rfl,hle,hres,h3⟩
 have H3:=ah (And.intro hle (And.intro hres h3))
 clear hle hres h3 H2 EO
 cases av with
 | none=>
  go_wp2
  rw[dZ.out]
  exact⟨none,0,0,J,rfl,H3.out.1,fun y hy=>(by cases hy),H3.out.2.2⟩
 | some y=>
  go_wp2
  rw[dZ.out]
  exact⟨b,m,d,J,rfl,H3.out.1,H3.out.2.1,H3.out.2.2⟩
set_option maxRecDepth 100000 in
set_option maxHeartbeats 8000000 in
theorem wS {W w:World} {A:aG} {I:Mem} (ta:Option Addr) (tn tc:Nat) (ca:Option Addr) (cn cc:Nat) (td:List Fm) (cl:List Cl) (ht:(rF.slice 4).rel I [.slice ta tn tc] td) (hc:(oz.slice 5).rel I [.slice ca cn cc] cl) (hT:∀f∈td,f.size≤pq) (hB:∀x∈cl,x.body.size≤pq) (h:Sat W w (sep (kn I) A)):
 Calls Tryz.prog 162 #[.agg #[.slice ta tn tc,.slice ca cn cc]] w fun e w'=>∃v J,e=.returned (.tuple #[v,.int .i64 (WM td cl)])∧Mem.le I J∧Sat W w' (sep (kn J) A):=by
 have htn:=(aU ht).1
 have ae9:=(aU ht).2.2
 have hcn:=(aU hc).1
 have hc63:=(aU hc).2.2
 have h1:=h.alloc (.cells #[.slice ta tn tc,.slice ca cn cc] 61)
 obtain⟨B,hBb⟩:=aC (w.heap.size)
 obtain⟨w1,hw1⟩:=aC (w.alloc (.cells #[.slice ta tn tc,.slice ca cn cc] 61))
 rw[←hBb,←hw1] at h1
 have HB:=ah (And.intro hBb hw1)
 have H1:=ah h1
 obtain⟨k0,k1,-,-⟩:=gX h1
 obtain⟨rv,fQ⟩:=aC (WM td cl)
 rw[←fQ]
 obtain⟨Po,iU⟩:∃P:Ending→World→Prop,P=fun e w'=>∃v J,e=.returned (.tuple #[v,.int .i64 rv])∧Mem.le I J∧Sat W w' (sep (kn J) A):=⟨_,rfl⟩
 rw[←iU]
 have dZ:=ah iU
 clear iU
 have dP:Hid (rv=if 16<tn then 4 else if wL td≠0 then wL td else if Cj cl≠0 then Cj cl else match o7 cl cl.length with|none=>4|some s=>if 128<(Fm.dV td).length+s then 4 else 0):=ah (by rw[fQ,htn];rfl)
 have HX:=ah (And.intro ht (And.intro hc (And.intro htn hcn)))
 have HXB:=ah (And.intro hT hB)
 clear ht hc hT hB h htn hcn h1 hBb hw1 fQ
 by_cases z16:16<tn
 ·have acF:(16:Int)<(tn:Int):=by omega
  have HF:Hid (rv=4):=ah (by rw[dP.out,if_pos z16])
  clear z16
  go_enter Tryz.func162,Tryz.ntmps162
  go_upto_region 1 with (fail)
  rw[←HB.out.1,←HB.out.2]
  go_wp2
  rw[dZ.out]
  exact⟨_,I,by rw[HF.out];rfl,Mem.le_refl _,H1.out.drop⟩
 ·have acF:¬(16:Int)<(tn:Int):=by omega
  have HR1:Hid (rv=if wL td≠0 then wL td else if Cj cl≠0 then Cj cl else match o7 cl cl.length with|none=>4|some s=>if 128<(Fm.dV td).length+s then 4 else 0):=ah (by rw[dP.out,if_neg z16])
  have ajo:=ah z16
  have ag3:(tn:Int)≤16:=by omega
  clear z16 dP
  go_enter Tryz.func162,Tryz.ntmps162
  go_upto_region 1 with (fail)
  rw[←HB.out.1,←HB.out.2]
  go_upto_region 4 with (fail)
  clear k0 k1 acF
  go_wp2_with fail
  go_loopw [4,5] (fun ov iv wr=>∃(j m d:Nat) (bO:Option Addr) (vs:List Value) (J:Mem),ov=.slice bO m d∧iv=.int .i64 j∧j≤tn∧m≤j*96∧Hid (m=(Fm.dV (td.take j)).length∧Mem.le I J∧(rF.rows 4).rel J vs (Fm.dV (td.take j))∧wL td=wL (td.drop j))∧Sat W wr (sep (aK 65 4 bO m d vs) (sep (kn J) (sep (blk B (.cells #[.slice ta tn tc,.slice ca cn cc] 61 (0,0))) A)))) (fun _ iv _=>tn-(intOf iv).toNat)
  case atStart=>exact⟨0,0,0,none,[],I,rfl,rfl,by omega,by omega,ah ⟨rfl,Mem.le_refl _,tH _ _ _,rfl⟩,(H1.out.p1).cZ 65 4⟩
  case round=>
   obtain⟨j,m,d,bO,vs,J,rfl,rfl,hj,hm,HV,hS⟩:=hrel
   obtain⟨k0,k1,-,-⟩:=gX hS.p2
   by_cases hlt:j<tn
   ·as_aux_lemma=>
    have hltz:(j:Int)<(tn:Int):=by omega
    obtain⟨f,hf⟩:∃f,td[j]?=some f:=⟨_,List.getElem?_eq_getElem (by have:=HX.out.2.2.1;omega)⟩
    obtain⟨b,o,p,q,x1,n1,c1,x2,n2,c2,rfl,hrf,hcell⟩:=kU HX.out.1 hf
    have WS:=ah (fun w' (he:Ext J w')=>hcell w' (fun i o hb=>he i o (HV.out.2.1 i o hb)))
    obtain⟨j0,j1,j2,j3⟩:=WS.out wr hS.p1.ext
    have hfs:=HXB.out.1 f (List.mem_of_getElem? hf)
    have Zl:=ah (jD f p q x1 n1 c1 x2 n2 c2 (rF.mono HV.out.2.1 hrf) hfs hS.p1)
    have HPT:=ah (fun w' A' (h':Sat W w' (sep (kn J) A'))=>Ew f w' A' J p q x1 n1 c1 x2 n2 c2 (rF.mono HV.out.2.1 hrf) hfs h')
    obtain⟨fe,hfe⟩:=aC (qO f)
    have hdr:=HV.out.2.2.2.trans (Q8 hf)
    rw[←hfe] at Zl hdr
    have HDR:=ah hdr
    have XD:=ah (And.intro hf (And.intro hfe (And.intro hlt hm)))
    have ajp:(m:Int)≤1536:=by omega
    clear hrf hcell hfs hfe hdr hf hlt hj hm hS H1
    go_upto_region 7 with (fail)
    go_wp2_with fail
    refine Zl.out.mono ?_
    rintro e w2 ⟨rfl,h2⟩
    clear j0 j1 j2 j3 k0 k1 Zl
    have H2:=ah (show Sat W w2 (sep (aK 65 4 bO m d vs) (sep (kn J) (sep (blk B (.cells #[.slice (some ⟨b,o,none⟩) tn tc,.slice ca cn cc] 61 (0,0))) A))) from h2.p1)
    clear h2
    by_cases he0:fe=0
    ·subst he0
     obtain⟨k0,k1,-,-⟩:=gX H2.out.p2
     obtain⟨j0,j1,j2,j3⟩:=WS.out w2 H2.out.p1.ext
     have afa:Hid (wL td=wL (td.drop (j+1))):=ah (by rw[HDR.out];simp)
     have hsf:=wQ XD.out.2.1.symm
     have htl:=Fm.CU f
     have HTL:Hid (f.iT.length≤96):=ah (by omega)
     clear hsf htl HDR
     go_upto_region 10 with (fail)
     go_wp2_with fail
     refine (HPT.out _ _ H2.out.p1).mono ?_
     rintro e w3 ⟨a3,n3,c3,J3,rfl,hn3,hle3,hr3,h3⟩
     obtain⟨us,Gx,hu0,hu1,hur,nG⟩:=tJ hr3
     have HU:=ah (And.intro Gx (And.intro hu0 (And.intro hu1 (And.intro hur (nG w3 h3.ext)))))
     have HN:=ah (And.intro hn3 hle3)
     have H3:=ah (show Sat W w3 (sep (aK 65 4 bO m d vs) (sep (kn J3) (sep (blk B (.cells #[.slice (some ⟨b,o,none⟩) tn tc,.slice ca cn cc] 61 (0,0))) A))) from h3.p1)
     have hmn:m+n3≤1632:=by have:=HTL.out;omega
     have HMN:=ah hmn
     clear h3 Gx hu0 hu1 hur nG hn3 hle3 hr3 HPT j0 j1 j2 j3 k0 k1 H2 hmn
     go_wp2_with (at_builtin;go_loud (refine aJ rfl _ _ 58 rfl 65 4 64 _ Tryz.underlying58 mF rfl rfl H3.out rfl us HU.out.1 HU.out.2.1 HU.out.2.2.2.2 HU.out.2.2.1 (by have:=HMN.out;omega) (by unfold maxLen;have:=HMN.out;omega) ?_))
     intro a4 c4 w4 h4
     have H4:=ah h4
     clear h4 H3
     go_wp2
     go_roundw
     case rel=>
      have htk:=Fm.CX td j XD.out.1
      refine⟨j+1,m+n3,c4,a4,vs++us,J3,rfl,by go_num,by have:=XD.out.2.2.1;omega,by have:=XD.out.2.2.2;have:=HTL.out;have:=HN.out.1;rw[Nat.add_mul];omega,ah ⟨by rw[htk,dI,←HV.out.1,←HN.out.1],Mem.le_trans HV.out.2.1 HN.out.2,by rw[htk];exact lD ((rF.rows 4).mono HN.out.2 HV.out.2.2.1) HU.out.2.2.2.1,afa.out⟩,H4.out⟩
     case measure=>simp[intOf];have:=XD.out.2.2.1;omega
    ·have he1:(fe !=0)=true:=by simpa using he0
     have he2:(fe==0)=false:=by simpa using he0
     have HF:Hid (rv=fe):=ah (by rw[HR1.out,HDR.out];simp[he0])
     have HF2:=ah (H2.out.cO.p1.drop)
     clear he0 H2
     go_wp2
     rw[dZ.out]
     exact⟨_,J,by rw[HF.out];rfl,HV.out.2.1,HF2.out⟩
   ·obtain rfl:j=tn:=by omega
    as_aux_lemma=>
    obtain⟨hv1,hv2,hv3,hv4⟩:=HV.out
    rw[List.drop_of_length_le (by have:=HX.out.2.2.1;omega)] at hv4
    rw[List.take_of_length_le (by have:=HX.out.2.2.1;omega)] at hv1 hv3
    have HR2:Hid (rv=if Cj cl≠0 then Cj cl else match o7 cl cl.length with|none=>4|some s=>if 128<(Fm.dV td).length+s then 4 else 0):=ah (by rw[HR1.out,hv4];rfl)
    have zJ:=ah (And.intro hv1 (And.intro hv2 hv3))
    have hcJ:=(oz.slice 5).mono hv2 HX.out.2.1
    have HVC:=ah (kV ca cn cc cl hcJ HXB.out.2 hS.p1)
    obtain⟨ce,hce⟩:=aC (Cj cl)
    rw[←hce] at HVC
    have WS:=ah hce
    have hmB:(m:Int)≤1536:=by omega
    have ZE:=ah hm
    clear hv1 hv2 hv3 hv4 hcJ hce hS hj hlt hm HR1 H1
    go_upto_region 11 with (fail)
    go_wp2_with fail
    refine HVC.out.mono ?_
    rintro e w2 ⟨rfl,h2⟩
    clear k0 k1 HVC
    have H2:=ah (show Sat W w2 (sep (aK 65 4 bO m d vs) (sep (kn J) (sep (blk B (.cells #[.slice ta j tc,.slice ca cn cc] 61 (0,0))) A))) from h2.p1)
    clear h2
    by_cases he0:ce=0
    ·subst he0
     have HR3:Hid (rv=match o7 cl cl.length with|none=>4|some s=>if 128<(Fm.dV td).length+s then 4 else 0):=ah (by rw[HR2.out,←WS.out];rfl)
     have hc32:=(NQ WS.out.symm).1
     have ajq:(cn:Int)≤32:=by have:=HX.out.2.2.2;omega
     clear hc32 HR2
     go_upto_region 14 with (fail)
     go_wp2_with fail
     go_loopw [4,8] (fun ov iv wr=>∃(i m2 d2 s:Nat) (b2:Option Addr) (vs2:List Value) (J2:Mem),ov=.slice b2 m2 d2∧iv=.int .i64 i∧i≤cn∧m2≤1536+i*64∧Hid (o7 cl i=some s∧m2=m+s∧Mem.le J J2)∧Sat W wr (sep (aK 65 4 b2 m2 d2 vs2) (sep (kn J2) (sep (blk B (.cells #[.slice ta j tc,.slice ca cn cc] 61 (0,0))) A)))) (fun _ iv _=>cn-(intOf iv).toNat)
     case atStart=>exact⟨0,m,d,0,bO,vs,J,rfl,rfl,by omega,by have:=ZE.out;omega,ah ⟨rfl,rfl,Mem.le_refl _⟩,H2.out⟩
     case round=>
      obtain⟨i,m2,d2,s,b2,vs2,J2,rfl,rfl,hi,hm2,IU,hS2⟩:=hrel
      obtain⟨k0,k1,-,-⟩:=gX hS2.p2
      by_cases hlt2:i<cn
      ·have acE:(i:Int)<(cn:Int):=by omega
       have EO:=ah (Oa ca cn cc cl ((oz.slice 5).mono (Mem.le_trans zJ.out.2.1 IU.out.2.2) HX.out.2.1) WS.out.symm HXB.out.2 i (by have:=HX.out.2.2.2;omega) hS2.p1)
       obtain⟨av,hav⟩:=aC (lX cl i)
       rw[←hav] at EO
       have WR:=ah (And.intro hav (And.intro hlt2 hm2))
       have ajr:(m2:Int)≤3584:=by omega
       clear hav hS2 hlt2 hi hm2 H2
       go_upto_region 17 with (fail)
       go_wp2_with fail
       refine EO.out.mono ?_
       rintro e w3 ⟨a3,n3,c3,J3,rfl,hle3,hres,h3⟩
       clear k0 k1 EO
       have H3:=ah (show Sat W w3 (sep (aK 65 4 b2 m2 d2 vs2) (sep (kn J3) (sep (blk B (.cells #[.slice ta j tc,.slice ca cn cc] 61 (0,0))) A))) from h3.p1)
       have HL3:=ah hle3
       cases av with
       | none=>
        have HF:Hid (rv=4):=ah (by rw[HR3.out,FU WR.out.1.symm cl.length (by have:=HX.out.2.2.2;have:=WR.out.2.1;omega)])
        have HF2:=ah (H3.out.cO.p1.drop)
        clear h3 hle3 hres H3
        go_wp2
        rw[dZ.out]
        exact⟨_,J3,by rw[HF.out];rfl,Mem.le_trans (Mem.le_trans zJ.out.2.1 IU.out.2.2) HL3.out,HF2.out⟩
       | some y=>
        obtain⟨hn3,hr3⟩:=hres y rfl
        obtain⟨us,Gx,hu0,hu1,hur,nG⟩:=tJ hr3
        have HU:=ah (And.intro Gx (And.intro hu0 (And.intro hu1 (nG w3 h3.ext))))
        have afc:=KE WR.out.1.symm
        have HN:=ah (And.intro hn3 (show n3≤64 by omega))
        have hmn:m2+n3≤3700:=by omega
        have HMN:=ah hmn
        clear h3 hle3 hres Gx hu0 hu1 hur nG hn3 hr3 afc hmn
        go_wp2_with (at_builtin;go_loud (refine aJ rfl _ _ 58 rfl 65 4 64 _ Tryz.underlying58 mF rfl rfl H3.out rfl us HU.out.1 HU.out.2.1 HU.out.2.2.2 HU.out.2.2.1 (by have:=HMN.out;omega) (by unfold maxLen;have:=HMN.out;omega) ?_))
        intro a4 c4 w4 h4
        have H4:=ah h4
        clear h4 H3
        go_wp2
        go_roundw
        case rel=>exact⟨i+1,m2+n3,c4,s+y.length,a4,vs2++us,J3,rfl,by go_num,by have:=WR.out.2.1;omega,by have:=WR.out.2.2;have:=HN.out.2;rw[Nat.add_mul];omega,ah ⟨N9 IU.out.1 WR.out.1.symm,by rw[IU.out.2.1,HN.out.1];omega,Mem.le_trans IU.out.2.2 HL3.out⟩,H4.out⟩
        case measure=>simp[intOf];have:=WR.out.2.1;omega
      ·obtain rfl:i=cn:=by omega
       have HR4:Hid (rv=if 128<m2 then 4 else 0):=ah (by
        have h1:=IU.out.1
        rw[HX.out.2.2.2] at h1
        rw[HR3.out,h1]
        show (if 128<(Fm.dV td).length+s then (4:Int) else 0)=_
        rw[←zJ.out.1,←IU.out.2.1])
       have HF2:=ah (hS2.cO.p1.drop)
       by_cases YG:128<m2
       ·have acH:(128:Int)<(m2:Int):=by omega
        have HF:Hid (rv=4):=ah (by rw[HR4.out,if_pos YG])
        clear YG hS2 H2
        go_wp2
        rw[dZ.out]
        exact⟨_,J2,by (rw[HF.out];try rfl),Mem.le_trans zJ.out.2.1 IU.out.2.2,HF2.out⟩
       ·have acH:¬(128:Int)<(m2:Int):=by omega
        have HF:Hid (rv=0):=ah (by rw[HR4.out,if_neg YG])
        clear YG hS2 H2
        go_wp2
        rw[dZ.out]
        exact⟨_,J2,by (rw[HF.out];try rfl),Mem.le_trans zJ.out.2.1 IU.out.2.2,HF2.out⟩
    ·have he1:(ce !=0)=true:=by simpa using he0
     have he2:(ce==0)=false:=by simpa using he0
     have HF:Hid (rv=ce):=ah (by rw[HR2.out,←WS.out];simp[he0])
     have HF2:=ah (H2.out.cO.p1.drop)
     clear he0 H2
     go_wp2
     rw[dZ.out]
     exact⟨_,J,by (rw[HF.out];try rfl),zJ.out.2.1,HF2.out⟩
theorem uF {W w:World} {A:aG} {I:Mem} (ta:Option Addr) (tn tc:Nat) (ca:Option Addr) (cn cc:Nat) (td:List Fm) (cl:List Cl) (ht:(rF.slice 4).rel I [.slice ta tn tc] td) (hc:(oz.slice 5).rel I [.slice ca cn cc] cl) (hT:∀f∈td,f.size≤pq) (hB:∀x∈cl,x.body.size≤pq) (h:Sat W w (sep (kn I) A)):
 Calls Tryz.prog 134 #[.agg #[.slice ta tn tc,.slice ca cn cc]] w fun e w'=>∃J,e=.returned (.int .i64 (WM td cl))∧Mem.le I J∧Sat W w' (sep (kn J) A):=by
 have h1:=h.alloc (.cells #[.slice ta tn tc,.slice ca cn cc] 61)
 obtain⟨B,hBb⟩:=aC (w.heap.size)
 obtain⟨w1,hw1⟩:=aC (w.alloc (.cells #[.slice ta tn tc,.slice ca cn cc] 61))
 rw[←hBb,←hw1] at h1
 have HB:=ah (And.intro hBb hw1)
 obtain⟨k0,k1,-,-⟩:=gX h1
 have HD:=ah (wS ta tn tc ca cn cc td cl ht hc hT hB h1.p1)
 obtain⟨rv,fQ⟩:=aC (WM td cl)
 rw[←fQ] at HD ⊢
 clear ht hc hT hB h h1 hBb hw1 fQ
 go_enter Tryz.func134,Tryz.ntmps134
 go_upto_region 1 with (fail)
 rw[←HB.out.1,←HB.out.2]
 go_wp2_with fail
 refine HD.out.mono ?_
 rintro e w2 ⟨v,J,rfl,hle,h2⟩
 have H2:=ah (And.intro hle h2.p1.drop)
 clear hle h2 HD k0 k1
 go_wp2
 go_ret
 exact⟨J,rfl,H2.out.1,H2.out.2⟩
end Go.Proofs.YtgicfogmdfdjmaaGreatDoor
namespace Go.Proofs.YtgicfogmdfdjmaaGreatDoor
open Go.RowKit PA
set_option maxHeartbeats 4000000 in
theorem Dn {W w:World} {A:aG} {I:Mem} (ta:Option Addr) (tn tc:Nat) (ca:Option Addr) (cn cc:Nat) (td:List Fm) (cl:List Cl) (ht:(rF.slice 4).rel I [.slice ta tn tc] td) (hc:(oz.slice 5).rel I [.slice ca cn cc] cl) (hT:∀f∈td,f.size≤pq) (hB:∀x∈cl,x.body.size≤pq)
 (hTO:∀f∈td,YK f) (hCO:∀x∈cl,Oi x) (hlen:(qG td cl).length≤268435456) (hlc:(gJ cl).length≤134217728) (h:Sat W w (sep (kn I) A)):
 Calls Tryz.prog 94 #[.agg #[.slice ta tn tc,.slice ca cn cc]] w fun e w'=>∃(b:Option Addr) (m d:Nat) (J:Mem),e=.returned (.tuple #[.slice b m d,.int .i64 (WM td cl)])∧Mem.le I J∧fB.rel J [.slice b m d] (oI td cl)∧Sat W w' (sep (kn J) A):=by
 have htn:=(aU ht).1
 have ae9:=(aU ht).2.2
 have h1:=h.alloc (.cells #[.slice ta tn tc,.slice ca cn cc] 61)
 obtain⟨B,hBb⟩:=aC (w.heap.size)
 obtain⟨w1,hw1⟩:=aC (w.alloc (.cells #[.slice ta tn tc,.slice ca cn cc] 61))
 rw[←hBb,←hw1] at h1
 have tX:=ah (And.intro hBb hw1)
 have k0:w1.cell? ⟨B,0,none⟩=some (.slice ta tn tc):=by rw[h1.cell 0];rfl
 have k1:w1.cell? ⟨B,1,none⟩=some (.slice ca cn cc):=by rw[h1.cell 1];rfl
 obtain⟨X,hX⟩:=aC (sep (blk B (.cells #[.slice ta tn tc,.slice ca cn cc] 61 (0,0))) A)
 have HX:Hid (∀w' J Y,Sat W w' (sep Y (sep (kn J) X))→w'.cell? ⟨B,0,none⟩=some (.slice ta tn tc)∧w'.cell? ⟨B,1,none⟩=some (.slice ca cn cc)):=ah fun w' J Y h'=>by
  rw[hX] at h'
  have h2:=h'.drop.p1
  exact⟨by rw[h2.cell 0];rfl,by rw[h2.cell 1];rfl⟩
 have HXD:Hid (∀w' J,Sat W w' (sep (kn J) X)→Sat W w' (sep (kn J) A)∧w'.cell? ⟨B,0,none⟩=some (.slice ta tn tc)∧w'.cell? ⟨B,1,none⟩=some (.slice ca cn cc)):=ah fun w' J h'=>by
  rw[hX] at h'
  have h2:=h'.p1
  exact⟨h2.drop,by rw[h2.cell 0];rfl,by rw[h2.cell 1];rfl⟩
 have h1':Sat W w1 (sep (kn I) X):=by rw[hX];simpa only[ay,au,aj] using h1
 obtain⟨rv,fQ⟩:=aC (WM td cl)
 obtain⟨E,hE⟩:=aC (qG td cl)
 obtain⟨E0,hE0⟩:=aC (oI td cl)
 obtain⟨ce,hce⟩:=aC (Cj cl)
 obtain⟨F,hF⟩:=aC (kW cl)
 have Ic:Hid (∀w' A',Sat W w' (sep (kn I) A')→Calls Tryz.prog 134 #[.agg #[.slice ta tn tc,.slice ca cn cc]] w' fun e w''=>∃J,e=.returned (.int .i64 rv)∧Mem.le I J∧Sat W w'' (sep (kn J) A')):=ah fun w' A' h'=>by rw[fQ];exact uF ta tn tc ca cn cc td cl ht hc hT hB h'
 have WS:Hid (∀w' A' J,Mem.le I J→Sat W w' (sep (kn J) A')→Calls Tryz.prog 97 #[.slice ca cn cc] w' fun e w''=>∃(b:Option Addr) (m d:Nat) (J2:Mem),e=.returned (.tuple #[.slice b m d,.int .i64 ce])∧Mem.le J J2∧fB.rel J2 [.slice b m d] F∧Sat W w'' (sep (kn J2) A')):=ah fun w' A' J hl h'=>by rw[hce,hF];exact sH ca cn cc cl ((oz.slice 5).mono hl hc) hB hCO hlc h'
 have VL:Hid ((rv=0→E0=E)∧(rv≠0→E0=[])):=ah ⟨fun h0=>by rw[hE0,hE];unfold oI;rw[if_pos (by rw[←fQ];exact h0)],fun h0=>by rw[hE0];unfold oI;rw[if_neg (by rw[←fQ];exact h0)]⟩
 have hFl:F.length≤134217728:=by rw[hF];exact nJ hlc
 obtain⟨V,hV⟩:∃V:Nat→List UInt8,V=fun j=>PA.encI tn++wV (td.take j):=⟨_,rfl⟩
 have hV0:V 0=PA.encI tn:=by rw[hV];simp[wV]
 have Sj:∀j g,td[j]?=some g→V (j+1)=V j++encR (lF g):=fun j g hg=>by
  rw[hV];simp only;unfold wV;rw[yE (fun f=>encR (lF f)) hg];simp only[List.append_assoc]
 have hVe:V tn++encR F=E:=by rw[hV,hE,hF];simp only;rw[htn,List.take_length];rfl
 have hEl:E.length≤268435456:=by rw[hE];exact hlen
 have VJ:∀j,(V j).length≤268435456:=fun j=>by
  rw[hV];simp only[dI]
  have:=Iy (fun f=>encR (lF f)) td j
  unfold qG at hlen;rw[dI,dI,←htn] at hlen
  unfold wV at hlen ⊢;omega
 have ahe:tn≤268435456:=by
  have key:∀l:List Fm,l.length≤(wV l).length:=by
   intro l
   induction l with
   | nil=>simp
   | cons g l ih=>
    unfold wV at ih ⊢
    rw[List.map_cons,List.flatten_cons,dI,List.length_cons]
    have:1≤(encR (lF g)).length:=by
     unfold encR;simp only[dI]
     have:=uvarint_pos (lF g).length
     omega
    omega
  have:=key td
  unfold qG at hlen;rw[dI,dI] at hlen
  omega
 have hb0:=jX (r:=(tn:Int)) (by omega) (by omega)
 have HVL:=ah (And.intro VJ hEl)
 have HV:=ah (And.intro hV0 (And.intro Sj hVe))
 have HTT:=ah (And.intro ht (And.intro hT hTO))
 have HN:=ah htn
 have Me:=ah hFl
 have H1:=ah h1'
 rw[←fQ,←hE0]
 obtain⟨Po,iU⟩:∃P:Ending→World→Prop,P=fun e w'=>∃(b:Option Addr) (m d:Nat) (J:Mem),e=.returned (.tuple #[.slice b m d,.int .i64 rv])∧Mem.le I J∧fB.rel J [.slice b m d] E0∧Sat W w' (sep (kn J) A):=⟨_,rfl⟩
 rw[←iU]
 have dZ:=ah iU
 clear ht hc hT hB hTO hCO hlen hlc h h1 h1' hBb hw1 hX fQ hE hE0 hce hF hFl hV hV0 Sj hVe hEl VJ htn iU
 by_cases hr0:rv=0
 ·subst hr0
  have HEE:=ah (VL.out.1 rfl)
  clear VL
  go_enter Tryz.func94,Tryz.ntmps94
  go_upto_region 1 with (fail)
  rw[←tX.out.1,←tX.out.2]
  go_wp2_with fail
  refine (Ic.out _ _ H1.out).mono ?_
  rintro e w2 ⟨J,rfl,hle,h2⟩
  have HJ:=ah hle
  have H2:=ah h2
  clear h2 hle Ic k0 k1 H1
  obtain⟨-,k0,k1⟩:=HXD.out _ _ H2.out
  go_upto_region 4 with (fail)
  go_wp2_with fail
  refine (iy (tn:Int) (by omega) (by omega) H2.out).mono ?_
  rintro e w3 ⟨a1,c1,rfl,h3⟩
  obtain⟨m,hm⟩:=aC ((PA.encI tn).length)
  obtain⟨vs,hvs⟩:=aC ((PA.encI tn).map bv)
  rw[←hm,←hvs] at h3
  rw[←hm]
  have HM:=ah (And.intro hm hvs)
  have H3:=ah h3
  clear hm hvs h3 H2 hb0 k0 k1
  go_wp2_with fail
  go_loopw [5,6] (fun ov kv wr=>∃(k:Nat) (a':Option Addr) (n' c':Nat) (vs:List Value) (J:Mem),ov=.slice a' n' c'∧kv=.int .i64 k∧k≤tn∧Hid (n'=(V k).length∧vs=(V k).map bv∧Mem.le I J)∧Sat W wr (sep (aK 5 1 a' n' c' vs) (sep (kn J) X))) (fun _ kv _=>tn-(intOf kv).toNat)
  case atStart=>exact⟨0,a1,m,c1,vs,J,rfl,rfl,by omega,ah ⟨by rw[HM.out.1,HV.out.1],by rw[HM.out.2,HV.out.1],HJ.out⟩,H3.out⟩
  case round=>
   obtain⟨k,a',n',c',vs',J',rfl,rfl,hk,HVV,hS⟩:=hrel
   clear H3
   obtain⟨k0,k1⟩:=HX.out _ _ _ hS
   by_cases hlt:k<tn
   ·have hltz:(k:Int)<(tn:Int):=by omega
    obtain⟨g,hg⟩:∃g,td[k]?=some g:=⟨_,List.getElem?_eq_getElem (by have:=HN.out;omega)⟩
    have hgm:g∈td:=List.mem_of_getElem? hg
    obtain⟨b,o,p,q,x1,n1,d1,x2,n2,d2,rfl,hrb,hcell⟩:=kU HTT.out.1 hg
    obtain⟨j0,j1,j2,j3⟩:=hcell wr (iI HVV.out.2.2 hS.p1.ext)
    obtain⟨fe,hfe⟩:=aC (qO g)
    obtain⟨G,hG⟩:=aC (lF g)
    have hcall:=sD (W:=W) (w:=wr) (A:=sep (aK 5 1 a' n' c' vs') X) (I:=J') g p q x1 n1 d1 x2 n2 d2 (rF.mono HVV.out.2.2 hrb) (HTT.out.2.1 g hgm) (HTT.out.2.2 g hgm).b64 (by have:=(HTT.out.2.2 g hgm).bl;omega) (by simpa only[ay,au,aj] using hS)
    rw[←hfe,←hG] at hcall
    have hGl:G.length≤16777216:=by rw[hG];exact sG (HTT.out.2.2 g hgm).bl
    obtain⟨m2,hm2⟩:=aC ((encR G).length)
    obtain⟨v2,hv2⟩:=aC ((encR G).map bv)
    have hb1:n'+m2≤268435456:=by
     have h1:=HVL.out.1 (k+1)
     rw[HV.out.2.1 k g hg,dI,←HVV.out.1,←hG,←hm2] at h1
     exact h1
    have oU:Hid (V (k+1)=V k++encR G∧k<tn):=ah ⟨by rw[hG];exact HV.out.2.1 k g hg,hlt⟩
    have qF:=ah (And.intro hm2 hv2)
    have Jc:=ah hcall
    have HB1:=ah (And.intro hb1 hGl)
    clear hg hgm hrb hcell hfe hG hcall hGl hm2 hv2 hb1 hlt hk hS
    go_upto_region 8 with (fail)
    go_wp2_with fail
    refine Jc.out.mono ?_
    rintro e w4 ⟨b4,m4,d4,J2,rfl,hle2,hr2,h4⟩
    have HJ2:=ah (And.intro hle2 hr2)
    have H4:=ah h4
    clear h4 hle2 hr2 Jc k0 k1 j0 j1 j2 j3
    go_upto_region 9 with (fail)
    go_wp2_with fail
    refine (mg (.slice b4 m4 d4) G H4.out HJ2.out.2 (by have:=HB1.out;omega)).mono ?_
    rintro e w5 ⟨a5,c5,rfl,h5⟩
    rw[←qF.out.1,←qF.out.2] at h5
    rw[←qF.out.1]
    have iV:Hid (nZ w5 a5 m2 v2):=ah (by rw[qF.out.2,qF.out.1] at h5 ⊢;exact jh h5)
    have h6:Sat W w5 (sep (aK 5 1 a' n' c' vs') (sep (kn J2) X)):=by have:=h5.drop;simpa only[ay,au,aj] using this
    clear h5 H4
    go_wp2_with (at_builtin;(refine aJ rfl (.tmp 36) (.tmp 38) 129 rfl 5 1 1 (.int .u8 0) Tryz.underlying129 fJ rfl rfl h6 rfl v2 iV.out.len iV.out.nil iV.out.src iV.out.one (by have:=HB1.out;omega) (by have:=HB1.out;unfold maxLen;omega) ?_))
    intro a7 c7 w7 h9
    have H9:=ah h9
    clear h6 h9 iV
    go_wp2_with fail
    go_roundw
    case rel=>
     refine⟨k+1,a7,n'+m2,c7,_,J2,rfl,by go_num,by have:=oU.out.2;omega,ah ⟨?_,?_,Mem.le_trans HVV.out.2.2 HJ2.out.1⟩,H9.out⟩
     ·rw[oU.out.1,dI,HVV.out.1,qF.out.1]
     ·rw[oU.out.1,lS,HVV.out.2.1,qF.out.2]
    case measure=>simp[intOf];have:=oU.out.2;omega
   ·obtain rfl:k=tn:=by omega
    have hb1:n'+(encR F).length=E.length:=by rw[HVV.out.1,←dI,HV.out.2.2]
    have hb2:vs'++(encR F).map bv=E.map bv:=by rw[HVV.out.2.1,←lS,HV.out.2.2]
    obtain⟨m2,hm2⟩:=aC ((encR F).length)
    obtain⟨v2,hv2⟩:=aC ((encR F).map bv)
    rw[←hm2] at hb1
    rw[←hv2] at hb2
    have qF:=ah (And.intro hm2 (And.intro hv2 (And.intro hb1 hb2)))
    have hS2:Sat W wr (sep (kn J') (sep (aK 5 1 a' n' c' vs') X)):=by simpa only[ay,au,aj] using hS
    have HJL:=ah HVV.out.2.2
    have HS2:=ah hS2
    clear hS hS2 hb1 hb2 hm2 hv2 hlt hk HVV
    go_upto_region 10 with (fail)
    go_wp2_with fail
    refine (WS.out _ _ _ HJL.out HS2.out).mono ?_
    rintro e w4 ⟨b4,m4,d4,J2,rfl,hle2,hr2,h4⟩
    have HJ2:=ah (And.intro hle2 hr2)
    have H4:=ah h4
    clear h4 hle2 hr2 WS k0 k1 HS2
    go_upto_region 11 with (fail)
    go_wp2_with fail
    refine (mg (.slice b4 m4 d4) F H4.out HJ2.out.2 (by have:=Me.out;omega)).mono ?_
    rintro e w5 ⟨a5,c5,rfl,h5⟩
    rw[←qF.out.1,←qF.out.2.1] at h5
    rw[←qF.out.1]
    have iV:Hid (nZ w5 a5 m2 v2):=ah (by rw[qF.out.2.1,qF.out.1] at h5 ⊢;exact jh h5)
    have h6:Sat W w5 (sep (aK 5 1 a' n' c' vs') (sep (kn J2) X)):=by have:=h5.drop;simpa only[ay,au,aj] using this
    clear h5 H4
    go_wp2_with (at_builtin;(refine aJ rfl (.tmp 46) (.tmp 48) 129 rfl 5 1 1 (.int .u8 0) Tryz.underlying129 fJ rfl rfl h6 rfl v2 iV.out.len iV.out.nil iV.out.src iV.out.one (by have:=qF.out.2.2.1;have:=HVL.out.2;omega) (by have:=qF.out.2.2.1;have:=HVL.out.2;unfold maxLen;omega) ?_))
    intro a7 c7 w7 h9
    have h10:Sat W w7 (sep (aK 5 1 a7 (n'+m2) c7 (E.map bv)) (sep (kn J2) X)):=by rw[←qF.out.2.2.2];exact h9
    obtain⟨J3,hle3,hr3,h11⟩:=kM h10 qF.out.2.2.1
    have HF:=ah (And.intro hle3 (And.intro hr3 (HXD.out _ _ h11).1))
    clear h6 h9 h10 h11 hle3 hr3 iV
    go_wp2
    rw[dZ.out]
    exact⟨a7,n'+m2,c7,J3,rfl,Mem.le_trans HJL.out (Mem.le_trans HJ2.out.1 HF.out.1),by rw[HEE.out];exact HF.out.2.1,HF.out.2.2⟩
 ·have HEE:=ah (VL.out.2 hr0)
  have hb1:(rv !=0)=true:=by simpa using hr0
  have hb2:(rv==0)=false:=by simpa using hr0
  clear VL hr0
  go_enter Tryz.func94,Tryz.ntmps94
  go_upto_region 1 with (fail)
  rw[←tX.out.1,←tX.out.2]
  go_wp2_with fail
  refine (Ic.out _ _ H1.out).mono ?_
  rintro e w2 ⟨J,rfl,hle,h2⟩
  have HF:=ah (And.intro hle (HXD.out _ _ h2).1)
  clear h2 hle Ic k0 k1 H1
  go_wp2
  rw[dZ.out]
  exact⟨none,0,0,J,rfl,HF.out.1,by rw[HEE.out];exact qg J,HF.out.2⟩
end Go.Proofs.YtgicfogmdfdjmaaGreatDoor
namespace Go.Proofs.YtgicfogmdfdjmaaGreatDoor
open Go.RowKit PA
theorem Oc:okR ⟨1,1⟩=true:=mY 1 1 (by omega) (by omega) (by decide) (by rfl)
def YH (n d:Int):Int:=if okR ⟨n,d⟩=true then (if n<d then -1 else if d<n then 1 else 0) else 0
theorem ltR_1 (n d:Int):QS ⟨n,d⟩ ⟨1,1⟩=decide (n<d):=by unfold QS;simp
theorem ltR_1' (n d:Int):QS ⟨1,1⟩ ⟨n,d⟩=decide (d<n):=by unfold QS;simp
set_option maxHeartbeats 1000000 in
theorem KP {W w:World} {A:aG} (n d:Int) (h:Sat W w A):
 Calls Tryz.prog 73 #[.agg #[.int .i64 n,.int .i64 d],.agg #[.int .i64 1,.int .i64 1]] w fun e w'=>e=.returned (.int .i64 (FH (okR ⟨n,d⟩)))∧Sat W w' A:=by
 have h1:=(h.alloc (.cells #[.int .i64 n,.int .i64 d] 57)).alloc (.cells #[.int .i64 1,.int .i64 1] 57)
 rw[World.size_alloc] at h1
 obtain⟨B,hB⟩:=aC (w.heap.size)
 obtain⟨w1,hw1⟩:=aC ((w.alloc (.cells #[.int .i64 n,.int .i64 d] 57)).alloc (.cells #[.int .i64 1,.int .i64 1] 57))
 rw[←hB,←hw1] at h1
 have HB:=ah (And.intro hB hw1)
 obtain⟨j0,j1,-,-⟩:=gX h1
 obtain⟨k0,k1,-,-⟩:=gX h1.p1
 have HV:=ah (jl n d h1)
 obtain⟨o,ho⟩:=aC (okR ⟨n,d⟩)
 rw[←ho] at HV ⊢
 clear h h1 hB hw1 ho
 cases o with
 | false=>
  go_enter Tryz.func73,Tryz.ntmps73
  go_upto_region 1 with (fail)
  simp only[←HB.out.1]
  rw[←HB.out.2]
  go_wp2_with fail
  refine HV.out.mono ?_
  rintro e w2 ⟨rfl,h2⟩
  have H2:=ah h2.drop.drop
  clear h2 HV j0 j1 k0 k1
  unfold FH
  go_wp2
  go_ret
  exact⟨rfl,H2.out⟩
 | true=>
  go_enter Tryz.func73,Tryz.ntmps73
  go_upto_region 1 with (fail)
  simp only[←HB.out.1]
  rw[←HB.out.2]
  go_wp2_with fail
  refine HV.out.mono ?_
  rintro e w2 ⟨rfl,h2⟩
  obtain⟨j0,j1,-,-⟩:=gX h2
  have hv2:=jl 1 1 h2
  rw[Oc] at hv2
  have zJ:=ah hv2
  clear h2 HV k0 k1 hv2
  unfold FH
  go_wp2_with fail
  refine zJ.out.mono ?_
  rintro e w3 ⟨rfl,h3⟩
  have H3:=ah h3.drop.drop
  clear h3 zJ j0 j1
  unfold FH
  go_wp2
  go_ret
  exact⟨rfl,H3.out⟩
set_option maxHeartbeats 1000000 in
theorem Oe {W w:World} {A:aG} (n d:Int) (h:Sat W w A):
 Calls Tryz.prog 161 #[.agg #[.int .i64 n,.int .i64 d],.agg #[.int .i64 1,.int .i64 1]] w fun e w'=>∃ev:Int,e=.returned (.tuple #[.int .i64 (YH n d),.int .i64 ev])∧Sat W w' A:=by
 have h1:=(h.alloc (.cells #[.int .i64 n,.int .i64 d] 57)).alloc (.cells #[.int .i64 1,.int .i64 1] 57)
 rw[World.size_alloc] at h1
 obtain⟨B,hB⟩:=aC (w.heap.size)
 obtain⟨w1,hw1⟩:=aC ((w.alloc (.cells #[.int .i64 n,.int .i64 d] 57)).alloc (.cells #[.int .i64 1,.int .i64 1] 57))
 rw[←hB,←hw1] at h1
 have HB:=ah (And.intro hB hw1)
 obtain⟨j0,j1,-,-⟩:=gX h1
 obtain⟨k0,k1,-,-⟩:=gX h1.p1
 have HV:=ah (KP n d h1)
 obtain⟨o,ho⟩:=aC (okR ⟨n,d⟩)
 obtain⟨cv,hcv⟩:=aC (YH n d)
 have hcv2:cv=if o=true then (if n<d then -1 else if d<n then 1 else 0) else 0:=by rw[hcv,ho];rfl
 have HL1:Hid (o=true→∀w' A',Sat W w' A'→Calls Tryz.prog 177 #[.agg #[.int .i64 n,.int .i64 d],.agg #[.int .i64 1,.int .i64 1]] w' fun e w''=>e=.returned (.bool (decide (n<d)))∧Sat W w'' A'):=ah fun e w' A' h'=>by
  rw[←ltR_1];exact pW ⟨n,d⟩ ⟨1,1⟩ (dM (by rw[←ho];exact e)).1 (dM Oc).1 h'
 have HL2:Hid (o=true→∀w' A',Sat W w' A'→Calls Tryz.prog 177 #[.agg #[.int .i64 1,.int .i64 1],.agg #[.int .i64 n,.int .i64 d]] w' fun e w''=>e=.returned (.bool (decide (d<n)))∧Sat W w'' A'):=ah fun e w' A' h'=>by
  rw[←ltR_1'];exact pW ⟨1,1⟩ ⟨n,d⟩ (dM Oc).1 (dM (by rw[←ho];exact e)).1 h'
 rw[←ho] at HV
 rw[←hcv]
 have Jj:=ah hcv2
 obtain⟨Po,iU⟩:∃P:Ending→World→Prop,P=fun e w'=>∃ev:Int,e=.returned (.tuple #[.int .i64 cv,.int .i64 ev])∧Sat W w' A:=⟨_,rfl⟩
 rw[←iU]
 have dZ:=ah iU
 clear h h1 hB hw1 ho hcv hcv2 iU
 cases o with
 | false=>
  go_enter Tryz.func161,Tryz.ntmps161
  go_upto_region 1 with (fail)
  simp only[←HB.out.1]
  rw[←HB.out.2]
  go_wp2_with fail
  refine HV.out.mono ?_
  rintro e w2 ⟨rfl,h2⟩
  have H2:=ah h2.drop.drop
  clear h2 HV j0 j1 k0 k1 HL1 HL2
  unfold FH
  go_wp2
  rw[dZ.out]
  exact⟨1,by rw[Jj.out];rfl,H2.out⟩
 | true=>
  go_enter Tryz.func161,Tryz.ntmps161
  go_upto_region 1 with (fail)
  simp only[←HB.out.1]
  rw[←HB.out.2]
  go_wp2_with fail
  refine HV.out.mono ?_
  rintro e w2 ⟨rfl,h2⟩
  clear j0 j1 k0 k1
  obtain⟨j0,j1,-,-⟩:=gX h2
  obtain⟨k0,k1,-,-⟩:=gX h2.p1
  have H2:=ah h2
  clear h2 HV
  unfold FH
  go_wp2_with fail
  refine (HL1.out (by first|rfl|trivial) _ _ H2.out).mono ?_
  rintro e w3 ⟨rfl,h3⟩
  clear j0 j1 k0 k1
  obtain⟨j0,j1,-,-⟩:=gX h3
  obtain⟨k0,k1,-,-⟩:=gX h3.p1
  have H3:=ah h3
  clear h3 H2 HL1
  by_cases c1:n<d
  ·have HF:=ah H3.out.drop.drop
   have HC:Hid (cv=-1):=ah (by rw[Jj.out];simp[c1])
   clear HL2
   go_wp2
   rw[dZ.out]
   exact⟨0,by rw[HC.out];rfl,HF.out⟩
  ·go_wp2_with fail
   refine (HL2.out (by first|rfl|trivial) _ _ H3.out).mono ?_
   rintro e w4 ⟨rfl,h4⟩
   have HF:=ah h4.drop.drop
   clear h4 H3 j0 j1 k0 k1
   by_cases c2:d<n
   ·have HC:Hid (cv=1):=ah (by rw[Jj.out];simp only[if_true];rw[if_neg (by omega),if_pos c2])
    go_wp2
    rw[dZ.out]
    exact⟨0,by rw[HC.out];rfl,HF.out⟩
   ·have HC:Hid (cv=0):=ah (by rw[Jj.out];simp only[if_true];rw[if_neg (by omega),if_neg (by omega)])
    go_wp2
    rw[dZ.out]
    exact⟨0,by rw[HC.out];rfl,HF.out⟩
theorem oH {W w:World} {A:aG} {I:Mem} (a:Option Addr) (n c:Nat) (l:List Cl) (hv:(oz.slice 5).rel I [.slice a n c] l) (hB:∀x∈l,x.body.size≤pq) (h:Sat W w (sep (kn I) A)):
 Calls Tryz.prog 160 #[.slice a n c] w fun e w'=>e=.returned (.bool (nV l))∧Sat W w' (sep (kn I) A):=by
 have hn:=(aU hv).1
 have hl63:=(aU hv).2.2
 have HV:=ah (kV a n c l hv hB h)
 obtain⟨ce,hce⟩:=aC (Cj l)
 obtain⟨rv,fQ⟩:=aC (nV l)
 have rZ:rv=(decide (0<n)&&decide (ce=0)):=by rw[fQ,hn,hce];rfl
 rw[←hce] at HV
 rw[←fQ]
 have dP:=ah rZ
 have H:=ah h
 clear hv hB h hn hce fQ rZ
 by_cases h0:0<n
 ·have h0z:(0:Int)<(n:Int):=by omega
  go_enter Tryz.func160,Tryz.ntmps160
  go_wp2_with fail
  refine HV.out.mono ?_
  rintro e w2 ⟨rfl,h2⟩
  have H2:=ah h2
  clear h2 HV
  go_wp2
  go_ret
  exact⟨by rw[dP.out,decide_eq_true h0];rfl,H2.out⟩
 ·have h0z:n=0:=by omega
  subst h0z
  go_enter Tryz.func160,Tryz.ntmps160
  go_wp2
  go_ret
  exact⟨by rw[dP.out];rfl,H.out⟩
end Go.Proofs.YtgicfogmdfdjmaaGreatDoor
namespace PA
open Go
theorem V4 {n d:Int} (hd:0<d) (g:Nat) (hg:g=Nat.gcd n.natAbs d.natAbs):
 newR n d=if 1099511627776<Int.tdiv n g∨Int.tdiv n g < -1099511627776∨1048576<Int.tdiv d g then (⟨0,0⟩,5) else (⟨Int.tdiv n g,Int.tdiv d g⟩,0):=by
 have e1:Int.tdiv d g=((d.natAbs / g:Nat):Int):=by
  obtain⟨m,rfl⟩:∃m:Nat,d=m:=⟨d.toNat,by omega⟩
  simp
 have e2:Int.tdiv n g=if n<0 then -((n.natAbs / g:Nat):Int) else ((n.natAbs / g:Nat):Int):=by
  split
  ·obtain⟨m,rfl⟩:∃m:Nat,n=-(m:Int):=⟨n.natAbs,by omega⟩
   rw[Int.neg_tdiv];simp
  ·obtain⟨m,rfl⟩:∃m:Nat,n=m:=⟨n.toNat,by omega⟩
   simp
 have hdd:decide (d<0)=false:=decide_eq_false (by omega)
 unfold newR kJ
 rw[if_neg (by omega),←hg,hdd,e1,e2]
 unfold kK kL
 generalize n.natAbs / g=q
 generalize d.natAbs / g=r
 by_cases hn:n<0
 ·simp only[hn,decide_true,Bool.bne_false,if_true]
  by_cases h1:1099511627776<q∨1048576<r
  ·rw[if_pos h1,if_pos (by omega)]
  ·rw[if_neg h1,if_neg (by omega)]
 ·simp only[hn,decide_false,Bool.bne_false,if_false,Bool.false_eq_true]
  by_cases h1:1099511627776<q∨1048576<r
  ·rw[if_pos h1,if_pos (by omega)]
  ·rw[if_neg h1,if_neg (by omega)]
end PA
namespace Go.Proofs.YtgicfogmdfdjmaaGreatDoor
open Go.RowKit PA
set_option maxHeartbeats 1000000 in
theorem Ou {W w:World} {A:aG} (n d m q:Int) (h:Sat W w A):
 Calls Tryz.prog 73 #[.agg #[.int .i64 n,.int .i64 d],.agg #[.int .i64 m,.int .i64 q]] w fun e w'=>e=.returned (.int .i64 (FH (okR ⟨n,d⟩&&okR ⟨m,q⟩)))∧Sat W w' A:=by
 have h1:=(h.alloc (.cells #[.int .i64 n,.int .i64 d] 57)).alloc (.cells #[.int .i64 m,.int .i64 q] 57)
 rw[World.size_alloc] at h1
 obtain⟨B,hB⟩:=aC (w.heap.size)
 obtain⟨w1,hw1⟩:=aC ((w.alloc (.cells #[.int .i64 n,.int .i64 d] 57)).alloc (.cells #[.int .i64 m,.int .i64 q] 57))
 rw[←hB,←hw1] at h1
 have HB:=ah (And.intro hB hw1)
 obtain⟨j0,j1,-,-⟩:=gX h1
 obtain⟨k0,k1,-,-⟩:=gX h1.p1
 have HV:=ah (jl n d h1)
 have HVB:Hid (∀w' A',Sat W w' A'→Calls Tryz.prog 98 #[.agg #[.int .i64 m,.int .i64 q]] w' fun e w''=>e=.returned (.int .i64 (FH (okR ⟨m,q⟩)))∧Sat W w'' A'):=ah fun w' A' h'=>jl m q h'
 obtain⟨o,ho⟩:=aC (okR ⟨n,d⟩)
 obtain⟨o2,ho2⟩:=aC (okR ⟨m,q⟩)
 rw[←ho] at HV ⊢
 rw[←ho2] at HVB ⊢
 clear h h1 hB hw1 ho ho2
 cases o with
 | false=>
  go_enter Tryz.func73,Tryz.ntmps73
  go_upto_region 1 with (fail)
  simp only[←HB.out.1]
  rw[←HB.out.2]
  go_wp2_with fail
  refine HV.out.mono ?_
  rintro e w2 ⟨rfl,h2⟩
  have H2:=ah h2.drop.drop
  clear h2 HV j0 j1 k0 k1
  unfold FH
  go_wp2
  go_ret
  exact⟨rfl,H2.out⟩
 | true=>
  go_enter Tryz.func73,Tryz.ntmps73
  go_upto_region 1 with (fail)
  simp only[←HB.out.1]
  rw[←HB.out.2]
  go_wp2_with fail
  refine HV.out.mono ?_
  rintro e w2 ⟨rfl,h2⟩
  obtain⟨j0,j1,-,-⟩:=gX h2
  have zJ:=ah (HVB.out _ _ h2)
  clear h2 HV k0 k1 HVB
  unfold FH
  go_wp2_with fail
  refine zJ.out.mono ?_
  rintro e w3 ⟨rfl,h3⟩
  have H3:=ah h3.drop.drop
  clear h3 zJ j0 j1
  cases o2 <;>
  ·unfold FH
   go_wp2
   go_ret
   exact⟨rfl,H3.out⟩
set_option maxHeartbeats 1000000 in
theorem V5 {W w:World} {A:aG} (n d:Int) (hd:0<d) (hn:n.natAbs≤4611686018427387904) (hd2:d≤4611686018427387904) (h:Sat W w A):
 Calls Tryz.prog 74 #[.int .i64 n,.int .i64 d] w fun e w'=>e=.returned (eX (newR n d))∧Sat W w' A:=by
 obtain⟨g,hg⟩:∃g:Nat,g=Nat.gcd n.natAbs d.natAbs:=⟨_,rfl⟩
 have hr:=V4 (n:=n) hd g hg
 have hg0:0<g:=by rw[hg];exact Nat.gcd_pos_of_pos_right _ (by omega)
 obtain⟨rs,hrs⟩:=aC (newR n d)
 rw[←hrs] at hr ⊢
 obtain⟨x,hx⟩:=aC (Int.tdiv n g)
 obtain⟨y,hy⟩:=aC (Int.tdiv d g)
 have hxb:x.natAbs≤n.natAbs:=by rw[hx,Int.natAbs_tdiv];exact Nat.div_le_self _ _
 have hyb:y.natAbs≤d.natAbs:=by rw[hy,Int.natAbs_tdiv];exact Nat.div_le_self _ _
 rw[←hx,←hy] at hr
 have ex:Int.tdiv n g=x:=hx.symm
 have ey:Int.tdiv d g=y:=hy.symm
 have x1:-4611686018427387904≤x:=by omega
 have x2:x≤4611686018427387904:=by omega
 have y1:-4611686018427387904≤y:=by omega
 have y2:y≤4611686018427387904:=by omega
 have h1:=h.alloc (.cells #[.int .i64 0,.int .i64 0] 57)
 obtain⟨B,hB⟩:=aC (w.heap.size)
 obtain⟨w1,hw1⟩:=aC (w.alloc (.cells #[.int .i64 0,.int .i64 0] 57))
 rw[←hB,←hw1] at h1
 have HC:=ah (wO n d (by omega) (by omega) h1)
 rw[←hg] at HC
 have HB:=ah (And.intro hB hw1)
 have HR:=ah hr
 have hgz:((g:Int)==0)=false:=by simp;omega
 have hgi:¬(g:Int)=0:=by omega
 have hgp:0<(g:Int):=by omega
 clear h h1 hB hw1 hr hrs hg hg0 hx hy hxb hyb hn hd2
 go_enter Tryz.func74,Tryz.ntmps74
 go_upto_region 1 with (fail)
 rw[←HB.out.1,←HB.out.2]
 go_wp2_with fail
 refine HC.out.mono ?_
 rintro e w2 ⟨rfl,h2⟩
 clear HC
 obtain⟨k0,k1,k2,k3⟩:=gX h2
 by_cases c:1099511627776<x∨x < -1099511627776∨1048576<y
 ·have hrs:rs=(⟨0,0⟩,5):=by rw[HR.out,if_pos c]
  subst hrs
  have h4:=fH h2 (.int .i64 0) (.int .i64 0)
  obtain⟨w4,hw4⟩:=aC ((w2.setCell ⟨B,0,none⟩ (.int .i64 0)).setCell ⟨B,1,none⟩ (.int .i64 0))
  rw[←hw4] at h4
  obtain⟨d0,d1,-,-⟩:=gX h4
  have uQ:=ah hw4
  have H4:=ah h4.drop
  clear hw4 h4 h2 HR
  by_cases c1:1099511627776<x
  ·clear c
   go_wp2
   rw[←uQ.out]
   exact bodyPost_ret (v:=.tuple #[.agg #[.int .i64 0,.int .i64 0],.int .i64 5]) (by simp[results,Tryz.results74,go_sem,d0,d1]) rfl ⟨rfl,H4.out⟩
  by_cases c2:x < -1099511627776
  ·clear c
   go_wp2
   rw[←uQ.out]
   exact bodyPost_ret (v:=.tuple #[.agg #[.int .i64 0,.int .i64 0],.int .i64 5]) (by simp[results,Tryz.results74,go_sem,d0,d1]) rfl ⟨rfl,H4.out⟩
  ·have c3:1048576<y:=by omega
   clear c
   go_wp2
   rw[←uQ.out]
   exact bodyPost_ret (v:=.tuple #[.agg #[.int .i64 0,.int .i64 0],.int .i64 5]) (by simp[results,Tryz.results74,go_sem,d0,d1]) rfl ⟨rfl,H4.out⟩
 ·have hrs:rs=(⟨x,y⟩,0):=by rw[HR.out,if_neg c]
  subst hrs
  have c1:¬1099511627776<x:=by omega
  have c2:¬x < -1099511627776:=by omega
  have c3:¬1048576<y:=by omega
  have h4:=fH h2 (.int .i64 x) (.int .i64 y)
  obtain⟨w4,hw4⟩:=aC ((w2.setCell ⟨B,0,none⟩ (.int .i64 x)).setCell ⟨B,1,none⟩ (.int .i64 y))
  rw[←hw4] at h4
  obtain⟨d0,d1,-,-⟩:=gX h4
  have uQ:=ah hw4
  have H4:=ah h4.drop
  clear hw4 h4 h2 HR c
  go_wp2
  rw[←uQ.out]
  exact bodyPost_ret (v:=.tuple #[.agg #[.int .i64 x,.int .i64 y],.int .i64 0]) (by simp[results,Tryz.results74,go_sem,d0,d1]) rfl ⟨rfl,H4.out⟩
theorem Rz {W w:World} {A:aG} (n d:Int) (hn:-9223372036854775807≤n∧n≤9223372036854775807) (h:Sat W w A):
 Calls Tryz.prog 59 #[.agg #[.int .i64 n,.int .i64 d]] w fun e w'=>e=.returned (.agg #[.int .i64 (-n),.int .i64 d])∧Sat W w' A:=by
 have h1:=(h.alloc (.cells #[.int .i64 n,.int .i64 d] 57)).alloc (.cells #[.int .i64 0,.int .i64 0] 57)
 rw[World.size_alloc] at h1
 obtain⟨B,hB⟩:=aC (w.heap.size)
 obtain⟨w1,hw1⟩:=aC ((w.alloc (.cells #[.int .i64 n,.int .i64 d] 57)).alloc (.cells #[.int .i64 0,.int .i64 0] 57))
 rw[←hB,←hw1] at h1
 have HB:=ah (And.intro hB hw1)
 obtain⟨j0,j1,j2,j3⟩:=gX h1
 obtain⟨k0,k1,-,-⟩:=gX h1.p1
 have h4:=fH h1 (.int .i64 (-n)) (.int .i64 d)
 obtain⟨w4,hw4⟩:=aC ((w1.setCell ⟨B+1,0,none⟩ (.int .i64 (-n))).setCell ⟨B+1,1,none⟩ (.int .i64 d))
 rw[←hw4] at h4
 obtain⟨d0,d1,-,-⟩:=gX h4
 have uQ:=ah hw4
 have H4:=ah h4.drop.drop
 have en:IntKind.i64.wrap (-n)=-n:=IntWalk.i64_in _ (by omega)
 clear h h1 hB hw1 hw4 h4 hn
 go_enter Tryz.func59,Tryz.ntmps59
 go_upto_region 1 with (fail)
 rw[←HB.out.1,←HB.out.2]
 go_wp2
 rw[←uQ.out]
 exact bodyPost_ret (v:=.agg #[.int .i64 (-n),.int .i64 d]) (by simp[results,Tryz.results59,go_sem,d0,d1]) rfl ⟨rfl,H4.out⟩
set_option maxHeartbeats 1000000 in
theorem F7 {W w:World} {A:aG} (a b:Rt) (h:Sat W w A):
 Calls Tryz.prog 58 #[.agg #[.int .i64 a.n,.int .i64 a.d],.agg #[.int .i64 b.n,.int .i64 b.d]] w fun e w'=>e=.returned (eX (jB a b))∧Sat W w' A:=by
 obtain⟨rs,hrs⟩:=aC (jB a b)
 rw[←hrs]
 have WG:=ah hrs
 have h1:=((h.alloc (.cells #[.int .i64 a.n,.int .i64 a.d] 57)).alloc (.cells #[.int .i64 b.n,.int .i64 b.d] 57)).alloc (.cells #[.int .i64 0,.int .i64 0] 57)
 obtain⟨B,hB⟩:=aC (w.heap.size)
 simp only[World.size_alloc,←hB] at h1
 obtain⟨w1,hw1⟩:=aC (((w.alloc (.cells #[.int .i64 a.n,.int .i64 a.d] 57)).alloc (.cells #[.int .i64 b.n,.int .i64 b.d] 57)).alloc (.cells #[.int .i64 0,.int .i64 0] 57))
 rw[←hw1] at h1
 have HV:=ah (Ou a.n a.d b.n b.d h1)
 obtain⟨ok,hok⟩:∃ok:Bool,ok=(okR ⟨a.n,a.d⟩&&okR ⟨b.n,b.d⟩):=⟨_,rfl⟩
 rw[←hok] at HV
 have HB:=ah hB
 have HW1:=ah hw1
 have ku:=ah hok
 obtain⟨an,ad⟩:=a
 obtain⟨bn,bd⟩:=b
 clear hrs hB hw1 hok h
 go_enter Tryz.func58,Tryz.ntmps58
 go_upto_region 1 with (fail)
 simp only[←HB.out,←HW1.out]
 obtain⟨k0,k1,-,-⟩:=gX h1.p1
 obtain⟨j0,j1,-,-⟩:=gX h1.p2
 go_wp2_with fail
 refine HV.out.mono ?_
 rintro e w3 ⟨rfl,h3⟩
 clear h1 k0 k1 j0 j1 HV
 unfold FH
 cases ok with
 | false=>
  obtain⟨k0,k1,k2,k3⟩:=gX h3
  have h4:=fH h3 (.int .i64 0) (.int .i64 0)
  obtain⟨w4,hw4⟩:=aC ((w3.setCell ⟨B+1+1,0,none⟩ (.int .i64 0)).setCell ⟨B+1+1,1,none⟩ (.int .i64 0))
  rw[←hw4] at h4
  obtain⟨d0,d1,-,-⟩:=gX h4
  have uQ:=ah hw4
  have hno:¬(okR ⟨an,ad⟩=true∧okR ⟨bn,bd⟩=true):=by have:=ku.out;rintro⟨q1,q2⟩;rw[q1,q2] at this;cases this
  have HNO:=ah hno
  clear hw4 hno
  go_wp2
  rw[←uQ.out]
  exact bodyPost_ret (v:=.tuple #[.agg #[.int .i64 0,.int .i64 0],.int .i64 1]) (by simp[results,Tryz.results58,go_sem,d0,d1]) rfl ⟨by rw[WG.out];unfold jB;rw[if_neg HNO.out];rfl,h4.forget.forget.forget⟩
 | true=>
  have Xw:okR ⟨an,ad⟩=true∧okR ⟨bn,bd⟩=true:=by have:=ku.out;exact Bool.and_eq_true_iff.1 this.symm
  have r1:=(dM Xw.1).1
  have r2:=(dM Xw.2).1
  obtain⟨a1,a2,a3,a4⟩:=r1
  obtain⟨b1,b2,b3,b4⟩:=r2
  simp only at a1 a2 a3 a4 b1 b2 b3 b4
  have m1:=nT a3 a4 (show 0≤bd by omega) b2
  have m2:=nT b3 b4 (show 0≤ad by omega) a2
  have m3:=nT (show -1099511627776≤ad by omega) (show ad≤1099511627776 by omega) (show 0≤bd by omega) b2
  have m4:0<ad*bd:=Int.mul_pos (by omega) (by omega)
  have heq:newR (an*bd+bn*ad) (ad*bd)=rs:=by rw[WG.out];unfold jB;rw[if_pos Xw]
  obtain⟨x,hx⟩:=aC (an*bd)
  obtain⟨y,hy⟩:=aC (bn*ad)
  obtain⟨z,hz⟩:=aC (ad*bd)
  rw[←hx] at m1
  rw[←hy] at m2
  rw[←hz] at m3 m4
  rw[←hx,←hy,←hz] at heq
  have e1:IntKind.i64.wrap (an*bd)=x:=by rw[←hx];exact IntWalk.i64_in _ (by omega)
  have e2:IntKind.i64.wrap (bn*ad)=y:=by rw[←hy];exact IntWalk.i64_in _ (by omega)
  have e3:IntKind.i64.wrap (ad*bd)=z:=by rw[←hz];exact IntWalk.i64_in _ (by omega)
  have e4:IntKind.i64.wrap (x+y)=x+y:=IntWalk.i64_in _ (by omega)
  have hnew:=fun w0 (A0:aG) (h0:Sat W w0 A0)=>V5 (x+y) z m4 (by omega) (by omega) h0
  rw[heq] at hnew
  have JD:=ah hnew
  obtain⟨k0,k1,-,-⟩:=gX h3.p1
  obtain⟨j0,j1,-,-⟩:=gX h3.p2
  clear hnew heq hx hy hz m1 m2 m3 m4 Xw a1 a2 a3 a4 b1 b2 b3 b4 WG ku
  go_wp2_with fail
  refine (JD.out _ _ h3).mono ?_
  rintro e w4 ⟨rfl,h4⟩
  clear e1 e2 e3 e4 k0 k1 j0 j1 h3 JD
  obtain⟨⟨rn,rd⟩,re⟩:=rs
  simp only[eX]
  obtain⟨k0,k1,k2,k3⟩:=gX h4
  have h5:=fH h4 (.int .i64 rn) (.int .i64 rd)
  obtain⟨w5,hw5⟩:=aC ((w4.setCell ⟨B+1+1,0,none⟩ (.int .i64 rn)).setCell ⟨B+1+1,1,none⟩ (.int .i64 rd))
  rw[←hw5] at h5
  obtain⟨d0,d1,-,-⟩:=gX h5
  have Xv:=ah hw5
  clear hw5
  go_wp2
  rw[←Xv.out]
  exact bodyPost_ret (v:=.tuple #[.agg #[.int .i64 rn,.int .i64 rd],.int .i64 re]) (by simp[results,Tryz.results58,go_sem,d0,d1]) rfl ⟨rfl,h5.forget.forget.forget⟩
end Go.Proofs.YtgicfogmdfdjmaaGreatDoor

/- Part of a proof. -/
import Derived.Test.YthfmaclnccdcbaaGreatDoorGActsValid22
import Derived.Test.YthfmaclnccdcbaaGreatDoorGActsValid21
namespace PA
open Go Go.RowKit
theorem Ec {l:List Fm} {j:Nat} {f:Fm} (h:l[j]?=some f):jU (l.drop j)=if jO f≠0 then jO f else jU (l.drop (j+1)):=by
 obtain⟨hj,rfl⟩:=List.getElem?_eq_some_iff.1 h
 rw[List.drop_eq_getElem_cons hj,jU]
theorem xw {l:List Cl} {k:Nat} (h:eY l k=none):∀n,k<n→jv l n=none
 | 0,h0=>absurd h0 (Nat.not_lt_zero _)
 | n+1,h0=>by
  unfold jv
  rcases Nat.lt_succ_iff_lt_or_eq.1 h0 with h1|rfl
  ·rw[xw h n h1]
  ·rw[h];cases jv l k<;>rfl
theorem Az {l:List Cl} {n s:Nat} {y:List Fm} (h1:jv l n=some s) (h2:eY l n=some y):jv l (n+1)=some (s+y.length):=by
 unfold jv;rw[h1,h2]
end PA
namespace Go.Proofs.YthfmaclnccdcbaaGreatDoor
open Go.RowKit PA
set_option maxHeartbeats 1000000 in
theorem MJ {W w:World} {A:aB} {I:Mem} (a:Option Addr) (n c:Nat) (l:List Cl) (hv:(kV.slice 5).rel I [.slice a n c] l) (hok:qF l=0) (hB:∀x∈l,x.body.size≤mW) (k:Nat) (hk:k<l.length) (h:Sat W w (sep (kn I) A)):
 Calls Tryz.prog 204 #[.slice a n c,.int .i64 (k:Nat)] w fun e w'=>∃(b:Option Addr) (m d:Nat) (J:Mem),e=.returned (.tuple #[.slice b m d,.int .i64 (if (eY l k).isSome=true then 0 else 4)])∧Mem.le I J∧(∀y,eY l k=some y→m=y.length∧(rF.slice 4).rel J [.slice b m d] y)∧Sat W w' (sep (kn J) A):=by
 have hn:=(aI hv).1
 have hn63:=(aI hv).2.2
 have hvs:∀w' A',Sat W w' (sep (kn I) A')→Calls Tryz.prog 140 #[.slice a n c] w' fun e w''=>e=.returned (.int .i64 0)∧Sat W w'' (sep (kn I) A'):=fun w' A' h'=>by
  have:=nP a n c l hv hB h'
  rw[hok] at this;exact this
 have hcs:∀w' A',Sat W w' (sep (kn I) A')→Calls Tryz.prog 220 #[.slice a n c,.int .i64 (k:Nat)] w' fun e w''=>e=.returned (.int .i64 0)∧Sat W w'' (sep (kn I) A'):=fun w' A' h'=>by
  have HV:=ah (hvs w' A' h')
  have hkz:(k:Int)<(n:Int):=by omega
  have hk0:¬(k:Int)<0:=by omega
  clear hvs h' hv hB hok hn hk
  go_enter Tryz.func220,Tryz.ntmps220
  go_wp2_with fail
  refine HV.out.mono ?_
  rintro e w2 ⟨rfl,h2⟩
  have H2:=ah h2
  clear h2 HV
  go_wp2
  go_ret
  exact⟨rfl,H2.out⟩
 have mO:=ah (hcs w A h)
 have qH:=ah (fun w' (h':Sat W w' (sep (kn I) A))=>Gy a n c l hv hok k hk w' A I (Mem.le_refl _) h')
 obtain⟨av,hav⟩:=aC (eY l k)
 rw[←hav] at qH ⊢
 obtain⟨Po,fK⟩:∃P:Ending→World→Prop,P=fun e w'=>∃(b:Option Addr) (m d:Nat) (J:Mem),e=.returned (.tuple #[.slice b m d,.int .i64 (if av.isSome=true then 0 else 4)])∧Mem.le I J∧(∀y,av=some y→m=y.length∧(rF.slice 4).rel J [.slice b m d] y)∧Sat W w' (sep (kn J) A):=⟨_,rfl⟩
 rw[←fK]
 have bP:=ah fK
 clear hvs hcs h hv hB hok hn hk hav fK
 go_enter Tryz.func204,Tryz.ntmps204
 go_wp2_with fail
 refine mO.out.mono ?_
 rintro e w2 ⟨rfl,h2⟩
 have H2:=ah h2
 clear h2 mO
 go_wp2_with fail
 refine (qH.out _ H2.out).mono ?_
 rintro e w3 ⟨b,m,d,J,rfl,hle,hres,h3⟩
 have H3:=ah (And.intro hle (And.intro hres h3))
 clear hle hres h3 H2 qH
 cases av with
 | none=>
  go_wp2
  rw[bP.out]
  exact⟨none,0,0,J,rfl,H3.out.1,fun y hy=>(by cases hy),H3.out.2.2⟩
 | some y=>
  go_wp2
  rw[bP.out]
  exact⟨b,m,d,J,rfl,H3.out.1,H3.out.2.1,H3.out.2.2⟩
set_option maxRecDepth 100000 in
set_option maxHeartbeats 8000000 in
theorem wK {W w:World} {A:aB} {I:Mem} (ta:Option Addr) (tn tc:Nat) (ca:Option Addr) (cn cc:Nat) (td:List Fm) (cl:List Cl) (ht:(rF.slice 4).rel I [.slice ta tn tc] td) (hc:(kV.slice 5).rel I [.slice ca cn cc] cl) (hT:∀f∈td,f.size≤mW) (hB:∀x∈cl,x.body.size≤mW) (h:Sat W w (sep (kn I) A)):
 Calls Tryz.prog 177 #[.agg #[.slice ta tn tc,.slice ca cn cc]] w fun e w'=>∃v J,e=.returned (.tuple #[v,.int .i64 (FP td cl)])∧Mem.le I J∧Sat W w' (sep (kn J) A):=by
 have htn:=(aI ht).1
 have Y2:=(aI ht).2.2
 have hcn:=(aI hc).1
 have hc63:=(aI hc).2.2
 have h1:=h.alloc (.cells #[.slice ta tn tc,.slice ca cn cc] 30)
 obtain⟨B,hBb⟩:=aC (w.heap.size)
 obtain⟨w1,hw1⟩:=aC (w.alloc (.cells #[.slice ta tn tc,.slice ca cn cc] 30))
 rw[←hBb,←hw1] at h1
 have HB:=ah (And.intro hBb hw1)
 have H1:=ah h1
 obtain⟨k0,k1,-,-⟩:=jL h1
 obtain⟨rv,dJ⟩:=aC (FP td cl)
 rw[←dJ]
 obtain⟨Po,fK⟩:∃P:Ending→World→Prop,P=fun e w'=>∃v J,e=.returned (.tuple #[v,.int .i64 rv])∧Mem.le I J∧Sat W w' (sep (kn J) A):=⟨_,rfl⟩
 rw[←fK]
 have bP:=ah fK
 clear fK
 have bI:Hid (rv=if 16<tn then 4 else if jU td≠0 then jU td else if qF cl≠0 then qF cl else match jv cl cl.length with|none=>4|some s=>if 128<(Fm.aT td).length+s then 4 else 0):=ah (by rw[dJ,htn];rfl)
 have HX:=ah (And.intro ht (And.intro hc (And.intro htn hcn)))
 have HXB:=ah (And.intro hT hB)
 clear ht hc hT hB h htn hcn h1 hBb hw1 dJ
 by_cases QL:16<tn
 ·have QM:(16:Int)<(tn:Int):=by omega
  have HF:Hid (rv=4):=ah (by rw[bI.out,if_pos QL])
  clear QL
  go_enter Tryz.func177,Tryz.ntmps177
  go_upto_region 1 with (fail)
  rw[←HB.out.1,←HB.out.2]
  go_wp2
  rw[bP.out]
  exact⟨_,I,by rw[HF.out];rfl,Mem.le_refl _,H1.out.drop⟩
 ·have QM:¬(16:Int)<(tn:Int):=by omega
  have HR1:Hid (rv=if jU td≠0 then jU td else if qF cl≠0 then qF cl else match jv cl cl.length with|none=>4|some s=>if 128<(Fm.aT td).length+s then 4 else 0):=ah (by rw[bI.out,if_neg QL])
  have Y3:=ah QL
  have Y4:(tn:Int)≤16:=by omega
  clear QL bI
  go_enter Tryz.func177,Tryz.ntmps177
  go_upto_region 1 with (fail)
  rw[←HB.out.1,←HB.out.2]
  go_upto_region 4 with (fail)
  clear k0 k1 QM
  go_wp2_with fail
  go_loopw [4,5] (fun ov iv wr=>∃(j m d:Nat) (bO:Option Addr) (vs:List Value) (J:Mem),ov=.slice bO m d∧iv=.int .i64 j∧j≤tn∧m≤j*96∧Hid (m=(Fm.aT (td.take j)).length∧Mem.le I J∧(rF.rows 4).rel J vs (Fm.aT (td.take j))∧jU td=jU (td.drop j))∧Sat W wr (sep (aY 34 4 bO m d vs) (sep (kn J) (sep (blk B (.cells #[.slice ta tn tc,.slice ca cn cc] 30 (0,0))) A)))) (fun _ iv _=>tn-(intOf iv).toNat)
  case atStart=>exact⟨0,0,0,none,[],I,rfl,rfl,by omega,by omega,ah ⟨rfl,Mem.le_refl _,jR _ _ _,rfl⟩,(H1.out.p1).gK 34 4⟩
  case round=>
   obtain⟨j,m,d,bO,vs,J,rfl,rfl,hj,hm,HV,hS⟩:=hrel
   obtain⟨k0,k1,-,-⟩:=jL hS.p2
   by_cases hlt:j<tn
   ·as_aux_lemma=>
    have hltz:(j:Int)<(tn:Int):=by omega
    obtain⟨f,hf⟩:∃f,td[j]?=some f:=⟨_,List.getElem?_eq_getElem (by have:=HX.out.2.2.1;omega)⟩
    obtain⟨b,o,p,q,x1,n1,c1,x2,n2,c2,rfl,hrf,hcell⟩:=gQ HX.out.1 hf
    have Hr:=ah (fun w' (he:Ext J w')=>hcell w' (fun i o hb=>he i o (HV.out.2.1 i o hb)))
    obtain⟨j0,j1,j2,j3⟩:=Hr.out wr hS.p1.ext
    have hfs:=HXB.out.1 f (List.mem_of_getElem? hf)
    have sV:=ah (jZ f p q x1 n1 c1 x2 n2 c2 (rF.mono HV.out.2.1 hrf) hfs hS.p1)
    have HPT:=ah (fun w' A' (h':Sat W w' (sep (kn J) A'))=>Dx f w' A' J p q x1 n1 c1 x2 n2 c2 (rF.mono HV.out.2.1 hrf) hfs h')
    obtain⟨fe,hfe⟩:=aC (jO f)
    have hdr:=HV.out.2.2.2.trans (Ec hf)
    rw[←hfe] at sV hdr
    have HDR:=ah hdr
    have VT:=ah (And.intro hf (And.intro hfe (And.intro hlt hm)))
    have Y5:(m:Int)≤1536:=by omega
    clear hrf hcell hfs hfe hdr hf hlt hj hm hS H1
    go_upto_region 7 with (fail)
    go_wp2_with fail
    refine sV.out.mono ?_
    rintro e w2 ⟨rfl,h2⟩
    clear j0 j1 j2 j3 k0 k1 sV
    have H2:=ah (show Sat W w2 (sep (aY 34 4 bO m d vs) (sep (kn J) (sep (blk B (.cells #[.slice (some ⟨b,o,none⟩) tn tc,.slice ca cn cc] 30 (0,0))) A))) from h2.p1)
    clear h2
    by_cases he0:fe=0
    ·subst he0
     obtain⟨k0,k1,-,-⟩:=jL H2.out.p2
     obtain⟨j0,j1,j2,j3⟩:=Hr.out w2 H2.out.p1.ext
     have Xp:Hid (jU td=jU (td.drop (j+1))):=ah (by rw[HDR.out];simp)
     have hsf:=kF VT.out.2.1.symm
     have htl:=Fm.vS f
     have HTL:Hid (f.cZ.length≤96):=ah (by omega)
     clear hsf htl HDR
     go_upto_region 10 with (fail)
     go_wp2_with fail
     refine (HPT.out _ _ H2.out.p1).mono ?_
     rintro e w3 ⟨a3,n3,c3,J3,rfl,hn3,hle3,hr3,h3⟩
     obtain⟨us,wM,hu0,hu1,hur,je⟩:=jY hr3
     have HU:=ah (And.intro wM (And.intro hu0 (And.intro hu1 (And.intro hur (je w3 h3.ext)))))
     have HN:=ah (And.intro hn3 hle3)
     have H3:=ah (show Sat W w3 (sep (aY 34 4 bO m d vs) (sep (kn J3) (sep (blk B (.cells #[.slice (some ⟨b,o,none⟩) tn tc,.slice ca cn cc] 30 (0,0))) A))) from h3.p1)
     have hmn:m+n3≤1632:=by have:=HTL.out;omega
     have PV:=ah hmn
     clear h3 wM hu0 hu1 hur je hn3 hle3 hr3 HPT j0 j1 j2 j3 k0 k1 H2 hmn
     go_wp2_with (at_builtin;go_loud (refine aV rfl _ _ 27 rfl 34 4 64 _ Tryz.underlying27 gX rfl rfl H3.out rfl us HU.out.1 HU.out.2.1 HU.out.2.2.2.2 HU.out.2.2.1 (by have:=PV.out;omega) (by unfold maxLen;have:=PV.out;omega) ?_))
     intro a4 c4 w4 h4
     have H4:=ah h4
     clear h4 H3
     go_wp2
     go_roundw
     case rel=>
      have htk:=Fm.vY td j VT.out.1
      refine⟨j+1,m+n3,c4,a4,vs++us,J3,rfl,by go_num,by have:=VT.out.2.2.1;omega,by have:=VT.out.2.2.2;have:=HTL.out;have:=HN.out.1;rw[Nat.add_mul];omega,ah ⟨by rw[htk,fA,←HV.out.1,←HN.out.1],Mem.le_trans HV.out.2.1 HN.out.2,by rw[htk];exact fG ((rF.rows 4).mono HN.out.2 HV.out.2.2.1) HU.out.2.2.2.1,Xp.out⟩,H4.out⟩
     case measure=>simp[intOf];have:=VT.out.2.2.1;omega
    ·have he1:(fe !=0)=true:=by simpa using he0
     have he2:(fe==0)=false:=by simpa using he0
     have HF:Hid (rv=fe):=ah (by rw[HR1.out,HDR.out];simp[he0])
     have HF2:=ah (H2.out.dP.p1.drop)
     clear he0 H2
     go_wp2
     rw[bP.out]
     exact⟨_,J,by rw[HF.out];rfl,HV.out.2.1,HF2.out⟩
   ·obtain rfl:j=tn:=by omega
    as_aux_lemma=>
    obtain⟨hv1,hv2,hv3,hv4⟩:=HV.out
    rw[List.drop_of_length_le (by have:=HX.out.2.2.1;omega)] at hv4
    rw[List.take_of_length_le (by have:=HX.out.2.2.1;omega)] at hv1 hv3
    have HR2:Hid (rv=if qF cl≠0 then qF cl else match jv cl cl.length with|none=>4|some s=>if 128<(Fm.aT td).length+s then 4 else 0):=ah (by rw[HR1.out,hv4];rfl)
    have kL:=ah (And.intro hv1 (And.intro hv2 hv3))
    have hcJ:=(kV.slice 5).mono hv2 HX.out.2.1
    have Xq:=ah (nP ca cn cc cl hcJ HXB.out.2 hS.p1)
    obtain⟨ce,hce⟩:=aC (qF cl)
    rw[←hce] at Xq
    have Hr:=ah hce
    have hmB:(m:Int)≤1536:=by omega
    have HMB:=ah hm
    clear hv1 hv2 hv3 hv4 hcJ hce hS hj hlt hm HR1 H1
    go_upto_region 11 with (fail)
    go_wp2_with fail
    refine Xq.out.mono ?_
    rintro e w2 ⟨rfl,h2⟩
    clear k0 k1 Xq
    have H2:=ah (show Sat W w2 (sep (aY 34 4 bO m d vs) (sep (kn J) (sep (blk B (.cells #[.slice ta j tc,.slice ca cn cc] 30 (0,0))) A))) from h2.p1)
    clear h2
    by_cases he0:ce=0
    ·subst he0
     have HR3:Hid (rv=match jv cl cl.length with|none=>4|some s=>if 128<(Fm.aT td).length+s then 4 else 0):=ah (by rw[HR2.out,←Hr.out];rfl)
     have hc32:=(qZ Hr.out.symm).1
     have aa6:(cn:Int)≤32:=by have:=HX.out.2.2.2;omega
     clear hc32 HR2
     go_upto_region 14 with (fail)
     go_wp2_with fail
     go_loopw [4,8] (fun ov iv wr=>∃(i m2 d2 s:Nat) (b2:Option Addr) (vs2:List Value) (J2:Mem),ov=.slice b2 m2 d2∧iv=.int .i64 i∧i≤cn∧m2≤1536+i*64∧Hid (jv cl i=some s∧m2=m+s∧Mem.le J J2)∧Sat W wr (sep (aY 34 4 b2 m2 d2 vs2) (sep (kn J2) (sep (blk B (.cells #[.slice ta j tc,.slice ca cn cc] 30 (0,0))) A)))) (fun _ iv _=>cn-(intOf iv).toNat)
     case atStart=>exact⟨0,m,d,0,bO,vs,J,rfl,rfl,by omega,by have:=HMB.out;omega,ah ⟨rfl,rfl,Mem.le_refl _⟩,H2.out⟩
     case round=>
      obtain⟨i,m2,d2,s,b2,vs2,J2,rfl,rfl,hi,hm2,qw,hS2⟩:=hrel
      obtain⟨k0,k1,-,-⟩:=jL hS2.p2
      by_cases hlt2:i<cn
      ·have QF:(i:Int)<(cn:Int):=by omega
       have qH:=ah (MJ ca cn cc cl ((kV.slice 5).mono (Mem.le_trans kL.out.2.1 qw.out.2.2) HX.out.2.1) Hr.out.symm HXB.out.2 i (by have:=HX.out.2.2.2;omega) hS2.p1)
       obtain⟨av,hav⟩:=aC (eY cl i)
       rw[←hav] at qH
       have Dh:=ah (And.intro hav (And.intro hlt2 hm2))
       have aa8:(m2:Int)≤3584:=by omega
       clear hav hS2 hlt2 hi hm2 H2
       go_upto_region 17 with (fail)
       go_wp2_with fail
       refine qH.out.mono ?_
       rintro e w3 ⟨a3,n3,c3,J3,rfl,hle3,hres,h3⟩
       clear k0 k1 qH
       have H3:=ah (show Sat W w3 (sep (aY 34 4 b2 m2 d2 vs2) (sep (kn J3) (sep (blk B (.cells #[.slice ta j tc,.slice ca cn cc] 30 (0,0))) A))) from h3.p1)
       have Xr:=ah hle3
       cases av with
       | none=>
        have HF:Hid (rv=4):=ah (by rw[HR3.out,xw Dh.out.1.symm cl.length (by have:=HX.out.2.2.2;have:=Dh.out.2.1;omega)])
        have HF2:=ah (H3.out.dP.p1.drop)
        clear h3 hle3 hres H3
        go_wp2
        rw[bP.out]
        exact⟨_,J3,by rw[HF.out];rfl,Mem.le_trans (Mem.le_trans kL.out.2.1 qw.out.2.2) Xr.out,HF2.out⟩
       | some y=>
        obtain⟨hn3,hr3⟩:=hres y rfl
        obtain⟨us,wM,hu0,hu1,hur,je⟩:=jY hr3
        have HU:=ah (And.intro wM (And.intro hu0 (And.intro hu1 (je w3 h3.ext))))
        have Xt:=vX Dh.out.1.symm
        have HN:=ah (And.intro hn3 (show n3≤64 by omega))
        have hmn:m2+n3≤3700:=by omega
        have PV:=ah hmn
        clear h3 hle3 hres wM hu0 hu1 hur je hn3 hr3 Xt hmn
        go_wp2_with (at_builtin;go_loud (refine aV rfl _ _ 27 rfl 34 4 64 _ Tryz.underlying27 gX rfl rfl H3.out rfl us HU.out.1 HU.out.2.1 HU.out.2.2.2 HU.out.2.2.1 (by have:=PV.out;omega) (by unfold maxLen;have:=PV.out;omega) ?_))
        intro a4 c4 w4 h4
        have H4:=ah h4
        clear h4 H3
        go_wp2
        go_roundw
        case rel=>exact⟨i+1,m2+n3,c4,s+y.length,a4,vs2++us,J3,rfl,by go_num,by have:=Dh.out.2.1;omega,by have:=Dh.out.2.2;have:=HN.out.2;rw[Nat.add_mul];omega,ah ⟨Az qw.out.1 Dh.out.1.symm,by rw[qw.out.2.1,HN.out.1];omega,Mem.le_trans qw.out.2.2 Xr.out⟩,H4.out⟩
        case measure=>simp[intOf];have:=Dh.out.2.1;omega
      ·obtain rfl:i=cn:=by omega
       have HR4:Hid (rv=if 128<m2 then 4 else 0):=ah (by
        have h1:=qw.out.1
        rw[HX.out.2.2.2] at h1
        rw[HR3.out,h1]
        show (if 128<(Fm.aT td).length+s then (4:Int) else 0)=_
        rw[←kL.out.1,←qw.out.2.1])
       have HF2:=ah (hS2.dP.p1.drop)
       by_cases FQ:128<m2
       ·have QN:(128:Int)<(m2:Int):=by omega
        have HF:Hid (rv=4):=ah (by rw[HR4.out,if_pos FQ])
        clear FQ hS2 H2
        go_wp2
        rw[bP.out]
        exact⟨_,J2,by (rw[HF.out];try rfl),Mem.le_trans kL.out.2.1 qw.out.2.2,HF2.out⟩
       ·have QN:¬(128:Int)<(m2:Int):=by omega
        have HF:Hid (rv=0):=ah (by rw[HR4.out,if_neg FQ])
        clear FQ hS2 H2
        go_wp2
        rw[bP.out]
        exact⟨_,J2,by (rw[HF.out];try rfl),Mem.le_trans kL.out.2.1 qw.out.2.2,HF2.out⟩
    ·have he1:(ce !=0)=true:=by simpa using he0
     have he2:(ce==0)=false:=by simpa using he0
     have HF:Hid (rv=ce):=ah (by rw[HR2.out,←Hr.out];simp[he0])
     have HF2:=ah (H2.out.dP.p1.drop)
     clear he0 H2
     go_wp2
     rw[bP.out]
     exact⟨_,J,by (rw[HF.out];try rfl),kL.out.2.1,HF2.out⟩
theorem Dy {W w:World} {A:aB} {I:Mem} (ta:Option Addr) (tn tc:Nat) (ca:Option Addr) (cn cc:Nat) (td:List Fm) (cl:List Cl) (ht:(rF.slice 4).rel I [.slice ta tn tc] td) (hc:(kV.slice 5).rel I [.slice ca cn cc] cl) (hT:∀f∈td,f.size≤mW) (hB:∀x∈cl,x.body.size≤mW) (h:Sat W w (sep (kn I) A)):
 Calls Tryz.prog 138 #[.agg #[.slice ta tn tc,.slice ca cn cc]] w fun e w'=>∃J,e=.returned (.int .i64 (FP td cl))∧Mem.le I J∧Sat W w' (sep (kn J) A):=by
 have h1:=h.alloc (.cells #[.slice ta tn tc,.slice ca cn cc] 30)
 obtain⟨B,hBb⟩:=aC (w.heap.size)
 obtain⟨w1,hw1⟩:=aC (w.alloc (.cells #[.slice ta tn tc,.slice ca cn cc] 30))
 rw[←hBb,←hw1] at h1
 have HB:=ah (And.intro hBb hw1)
 obtain⟨k0,k1,-,-⟩:=jL h1
 have HD:=ah (wK ta tn tc ca cn cc td cl ht hc hT hB h1.p1)
 obtain⟨rv,dJ⟩:=aC (FP td cl)
 rw[←dJ] at HD ⊢
 clear ht hc hT hB h h1 hBb hw1 dJ
 go_enter Tryz.func138,Tryz.ntmps138
 go_upto_region 1 with (fail)
 rw[←HB.out.1,←HB.out.2]
 go_wp2_with fail
 refine HD.out.mono ?_
 rintro e w2 ⟨v,J,rfl,hle,h2⟩
 have H2:=ah (And.intro hle h2.p1.drop)
 clear hle h2 HD k0 k1
 go_wp2
 go_ret
 exact⟨J,rfl,H2.out.1,H2.out.2⟩
end Go.Proofs.YthfmaclnccdcbaaGreatDoor
namespace Go.Proofs.YthfmaclnccdcbaaGreatDoor
open Go.RowKit PA
attribute [local go_sem ↓] gB
attribute [local go_sem] zS
def QJ (W:World) (I:Mem) (ys:List Fm) (A:aB) (e:Ending) (w':World):Prop:=
 ∃(a:Option Addr) (n c:Nat) (vs:List Value) (J:Mem),e=.returned (.slice a n c)∧n=ys.length∧Mem.le I J∧(rF.rows 4).rel J vs ys∧Sat W w' (sep (aY 34 4 a n c vs) (sep (kn J) A))
def QK (W:World) (l:List Fm):Prop:=
 ∀(w:World) (A:aB) (I:Mem) (a:Option Addr) (n c:Nat),(rF.slice 4).rel I [.slice a n c] l→Fm.sizes l≤nM→Sat W w (sep (kn I) A)→Calls Tryz.prog 200 #[.slice a n c] w (QJ W I (Fm.aT l) A)
set_option maxRecDepth 100000 in
set_option maxHeartbeats 8000000 in
theorem yA {W:World} (l:List Fm) (ih:∀f∈l,QK W f.kids):QK W l:=by
 intro w A I a n c hv hsz h
 have hn:=(aI hv).1
 have hn63:=(aI hv).2.2
 obtain⟨Po,fK⟩:=aC (QJ W I (Fm.aT l) A)
 rw[←fK]
 have bP:=ah fK
 have HX:=ah (And.intro hv (And.intro hsz (And.intro hn ih)))
 have H1:=ah h
 clear hv hsz h hn fK ih
 go_enter Tryz.func200,Tryz.ntmps200
 go_wp2_with fail
 go_loopw [3,8] (fun ov iv wr=>∃(j m d:Nat) (b:Option Addr) (vs:List Value) (J:Mem),ov=.slice b m d∧iv=.int .i64 j∧j≤n∧m≤1000000∧Hid (m=(Fm.aT (l.take j)).length∧Mem.le I J∧(rF.rows 4).rel J vs (Fm.aT (l.take j)))∧Sat W wr (sep (aY 34 4 b m d vs) (sep (kn J) A))) (fun _ iv _=>n-(intOf iv).toNat)
 case atStart=>exact⟨0,0,0,none,[],I,rfl,rfl,by omega,by omega,ah ⟨by simp[Fm.aT],Mem.le_refl _,by simp only[List.take_zero,Fm.aT];exact jR _ _ _⟩,H1.out.gK 34 4⟩
 case round=>
  obtain⟨j,m,d,b,vs,J,rfl,rfl,hj,hm6,HV,hS⟩:=hrel
  by_cases hlt:j<n
  ·as_aux_lemma=>
   have hltz:(j:Int)<(n:Int):=by omega
   obtain⟨g,hg⟩:∃g,l[j]?=some g:=⟨_,List.getElem?_eq_getElem (by have:=HX.out.2.2.1;omega)⟩
   obtain⟨b2,o2,p',q',y1,m1,d1,y2,m2,d2,rfl,hgr,hcell⟩:=gQ HX.out.1 hg
   have hmem:g∈l:=List.mem_of_getElem? hg
   have SY:=rF.mono HV.out.2.1 hgr
   obtain⟨j0,j1,j2,j3⟩:=hcell wr (fun i o hb=>hS.p1.ext i o (HV.out.2.1 i o hb))
   have htk:=Fm.vY l j hg
   have hgs:=Fm.jQ hmem
   have I4:(Fm.aT (l.take (j+1))).length≤1000000:=by have h1:=Fm.oC (l.take (j+1));have h2:=Fm.oz l (j+1);have h3:=HX.out.2.1;unfold nM at h3;omega
   have ihg:=HX.out.2.2.2 g hmem
   obtain⟨o',n',i',k'⟩:=g
   obtain⟨x1',c1',x2',c2',e,hi',hk'⟩:=dL.1 SY
   simp only[List.cons.injEq,Value.int.injEq,Value.slice.injEq,true_and,and_true] at e
   obtain⟨rfl,rfl,⟨rfl,rfl,rfl⟩,⟨rfl,rfl,rfl⟩⟩:=e
   have hAl:=hS.alloc (.cells #[.int .i64 p',.int .i64 q',.slice y1 i'.length d1,.slice y2 k'.length d2] 34)
   obtain⟨ni,hni⟩:=aC (i'.length)
   obtain⟨nk,hnk⟩:=aC (k'.length)
   obtain⟨f0,hf0⟩:=aC (Fm.mk p' q' i' k')
   have hsk:Fm.sizes k'≤nM:=by
    have h3:=HX.out.2.1
    rw[Fm.size] at hgs
    omega
   rw[←hni,←hnk] at hAl SY
   rw[←hni] at j2
   rw[←hnk] at j3 hk'
   have hrec:∀w' A',Sat W w' (sep (kn J) A')→Calls Tryz.prog 200 #[.slice y2 nk d2] w' (QJ W J (Fm.aT k') A'):=fun w' A' h'=>ihg w' A' J y2 nk d2 hk' hsk h'
   obtain⟨GA,QG⟩:=aC (wr.heap.size)
   obtain⟨w4,hw4⟩:=aC (wr.alloc (.cells #[.int .i64 p',.int .i64 q',.slice y1 ni d1,.slice y2 nk d2] 34))
   rw[←QG,←hw4] at hAl
   obtain⟨k0,k1,k2,k3⟩:=kS hAl
   have qH:Hid (Sat W w4 (sep (aY 34 4 b m d vs) (sep (kn J) (sep (blk GA (.cells #[.int .i64 p',.int .i64 q',.slice y1 ni d1,.slice y2 nk d2] 34 (0,0))) A)))):=ah (by simpa only[au,ak,aj] using hAl)
   have SX:=ah (And.intro QG hw4)
   have Nr:=ah hrec
   have HT:=ah (And.intro htk (And.intro I4 (And.intro hlt SY)))
   clear hgr hcell hmem SY htk hgs hrec hS hlt hj I4 H1 hg hAl QG hw4 hi' hk' hsk hni hnk hf0 ihg
   by_cases o5:p'=5
   ·subst o5
    have Ak:Hid ((Fm.mk 5 q' i' k').cZ=Fm.aT k'):=ah (by rw[Fm.cZ,if_pos rfl])
    go_upto_region 5 with (fail)
    rw[←SX.out.1,←SX.out.2]
    clear j0 j1 j2 j3
    go_wp2_with fail
    refine (Nr.out _ _ qH.out.p1).mono ?_
    rintro e w2 ⟨a3,n3,c3,vs3,J2,rfl,hn3,hle2,hr2,h20⟩
    obtain⟨J3,VR,hr3,h2⟩:=iO hr2 hn3 h20
    have hle3:=Mem.le_trans hle2 VR
    obtain⟨us,wM,hu0,hu1,hur,je⟩:=jY hr3
    have hmn:m+n3≤1000000:=by have:=HT.out.2.1;rw[HT.out.1,fA,←HV.out.1,Ak.out,←hn3] at this;exact this
    have HU:=ah (And.intro wM (And.intro hu0 (And.intro hu1 (And.intro hur (je w2 h2.ext)))))
    have HN:=ah (And.intro hmn (And.intro hn3 hle3))
    have H2:Hid (Sat W w2 (sep (aY 34 4 b m d vs) (sep (kn J3) A))):=ah (by
     have h3:Sat W w2 (sep (blk GA (.cells #[.int .i64 5,.int .i64 q',.slice y1 ni d1,.slice y2 nk d2] 34 (0,0))) (sep (aY 34 4 b m d vs) (sep (kn J3) A))):=by simpa only[au,ak,aj] using h2
     exact h3.forget)
    clear h2 h20 wM hu0 hu1 hur je hmn hn3 hle3 hle2 VR hr3 hr2 Nr k0 k1 k2 k3
    go_wp2_with (at_builtin;go_loud (refine aV rfl _ _ 27 rfl 34 4 64 _ Tryz.underlying27 gX rfl rfl H2.out rfl us HU.out.1 HU.out.2.1 HU.out.2.2.2.2 HU.out.2.2.1 (by have:=HN.out.1;omega) (by unfold maxLen;have:=HN.out.1;omega) ?_))
    intro a4 c4 w5 h4
    have H4:=ah h4
    clear h4 H2
    go_wp2
    go_roundw
    case rel=>exact⟨j+1,m+n3,c4,a4,vs++us,J3,rfl,by go_num,by have:=HT.out.2.2.1;omega,HN.out.1,ah ⟨by rw[HT.out.1,fA,←HV.out.1,Ak.out,←HN.out.2.1],Mem.le_trans HV.out.2.1 HN.out.2.2,by rw[HT.out.1,Ak.out];exact fG ((rF.rows 4).mono HN.out.2.2 HV.out.2.2) HU.out.2.2.2.1⟩,H4.out⟩
    case measure=>simp[intOf];have:=HT.out.2.2.1;omega
   ·have Ak:Hid ((Fm.mk p' q' i' k').cZ=[Fm.mk p' q' i' k']):=ah (by rw[Fm.cZ,if_neg o5])
    have o5':(p'==5)=false:=by simpa using o5
    have hmn:m+1≤1000000:=by have:=HT.out.2.1;rw[HT.out.1,fA,←HV.out.1,Ak.out] at this;exact this
    have yU:=ah (iY w4 [.int .i64 p',.int .i64 q',.slice y1 ni d1,.slice y2 nk d2] 34)
    have HA2:Hid (Sat W (w4.alloc (.cells #[.int .i64 p',.int .i64 q',.slice y1 ni d1,.slice y2 nk d2] 34)) (sep (aY 34 4 b m d vs) (sep (kn J) A))):=ah (by
     have h3:=qH.out.gu (.cells #[.int .i64 p',.int .i64 q',.slice y1 ni d1,.slice y2 nk d2] 34)
     have h5:Sat W (w4.alloc (.cells #[.int .i64 p',.int .i64 q',.slice y1 ni d1,.slice y2 nk d2] 34)) (sep (blk GA (.cells #[.int .i64 p',.int .i64 q',.slice y1 ni d1,.slice y2 nk d2] 34 (0,0))) (sep (aY 34 4 b m d vs) (sep (kn J) A))):=by simpa only[au,ak,aj] using h3
     exact h5.forget)
    have PV:=ah hmn
    clear o5 hmn
    go_upto_region 5 with (fail)
    rw[←SX.out.1,←SX.out.2]
    clear j0 j1 j2 j3
    go_wp2_with (at_builtin;refine aV rfl _ _ 27 rfl 34 4 64 _ Tryz.underlying27 gX rfl rfl HA2.out rfl [.int .i64 p',.int .i64 q',.slice y1 ni d1,.slice y2 nk d2] rfl (by simp) (by intro b' hb;cases hb;exact yU.out) (vT HT.out.2.2.2) (by have:=PV.out;omega) (by unfold maxLen;have:=PV.out;omega) ?_)
    intro a4 c4 w5 h4
    have H4:=ah h4
    clear h4 HA2 yU k0 k1 k2 k3
    go_wp2
    go_roundw
    case rel=>exact⟨j+1,m+1,c4,a4,_,J,rfl,by go_num,by have:=HT.out.2.2.1;omega,PV.out,ah ⟨by rw[HT.out.1,fA,←HV.out.1,Ak.out];rfl,HV.out.2.1,by rw[HT.out.1,Ak.out];exact fG HV.out.2.2 (fV HT.out.2.2.2 rfl)⟩,H4.out⟩
    case measure=>simp[intOf];have:=HT.out.2.2.1;omega
  ·obtain rfl:j=n:=by omega
   obtain⟨hv1,hv2,hv3⟩:=HV.out
   rw[List.take_of_length_le (by have:=HX.out.2.2.1;omega)] at hv1 hv3
   have HF:=ah (And.intro hv1 (And.intro hv2 (And.intro hv3 hS)))
   clear hS hv1 hv2 hv3 H1
   go_wp2
   rw[bP.out]
   exact⟨b,m,d,vs,J,rfl,HF.out.1,HF.out.2.1,HF.out.2.2.1,HF.out.2.2.2⟩
theorem I5 {W:World} (f:Fm):QK W f.kids:=
 Fm.ind (P:=fun f=>QK W f.kids) (fun _ _ _ k ih=>yA k ih) f
theorem I7 {W:World} (l:List Fm):QK W l:=yA l fun f _=>I5 f
set_option maxRecDepth 100000 in
set_option maxHeartbeats 8000000 in
theorem yY {W w:World} {A:aB} {I:Mem} (ta:Option Addr) (tn tc:Nat) (ca:Option Addr) (cn cc:Nat) (td:List Fm) (cl:List Cl) (ht:(rF.slice 4).rel I [.slice ta tn tc] td) (hc:(kV.slice 5).rel I [.slice ca cn cc] cl) (hT:∀f∈td,IL f) (hB:∀x∈cl,IL x.body) (h:Sat W w (sep (kn I) A)):
 Calls Tryz.prog 171 #[.agg #[.slice ta tn tc,.slice ca cn cc]] w fun e w'=>∃v J,e=.returned (.tuple #[v,.int .i64 (FP td cl)])∧Mem.le I J∧Sat W w' (sep (kn J) A):=by
 have htn:=(aI ht).1
 have Y2:=(aI ht).2.2
 have hcn:=(aI hc).1
 have hc63:=(aI hc).2.2
 have h1:=h.alloc (.cells #[.slice ta tn tc,.slice ca cn cc] 30)
 obtain⟨B,hBb⟩:=aC (w.heap.size)
 obtain⟨w1,hw1⟩:=aC (w.alloc (.cells #[.slice ta tn tc,.slice ca cn cc] 30))
 rw[←hBb,←hw1] at h1
 have HB:=ah (And.intro hBb hw1)
 have H1:=ah h1
 obtain⟨k0,k1,-,-⟩:=jL h1
 obtain⟨rv,dJ⟩:=aC (FP td cl)
 rw[←dJ]
 obtain⟨Po,fK⟩:∃P:Ending→World→Prop,P=fun e w'=>∃v J,e=.returned (.tuple #[v,.int .i64 rv])∧Mem.le I J∧Sat W w' (sep (kn J) A):=⟨_,rfl⟩
 rw[←fK]
 have bP:=ah fK
 clear fK
 have bI:Hid (rv=if 16<tn then 4 else if jU td≠0 then jU td else if qF cl≠0 then qF cl else match jv cl cl.length with|none=>4|some s=>if 128<(Fm.aT td).length+s then 4 else 0):=ah (by rw[dJ,htn];rfl)
 have HX:=ah (And.intro ht (And.intro hc (And.intro htn hcn)))
 have HXB:=ah (And.intro hT hB)
 clear ht hc hT hB h htn hcn h1 hBb hw1 dJ
 by_cases QL:16<tn
 ·have QM:(16:Int)<(tn:Int):=by omega
  have HF:Hid (rv=4):=ah (by rw[bI.out,if_pos QL])
  clear QL
  go_enter Tryz.func171,Tryz.ntmps171
  go_upto_region 1 with (fail)
  rw[←HB.out.1,←HB.out.2]
  go_wp2
  rw[bP.out]
  exact⟨_,I,by rw[HF.out];rfl,Mem.le_refl _,H1.out.drop⟩
 ·have QM:¬(16:Int)<(tn:Int):=by omega
  have HR1:Hid (rv=if jU td≠0 then jU td else if qF cl≠0 then qF cl else match jv cl cl.length with|none=>4|some s=>if 128<(Fm.aT td).length+s then 4 else 0):=ah (by rw[bI.out,if_neg QL])
  have Y3:=ah QL
  have Y4:(tn:Int)≤16:=by omega
  clear QL bI
  go_enter Tryz.func171,Tryz.ntmps171
  go_upto_region 1 with (fail)
  rw[←HB.out.1,←HB.out.2]
  go_upto_region 3 with (fail)
  clear QM
  go_wp2_with fail
  clear k0 k1
  go_loopw [19] (fun iv wr=>∃(j:Nat),iv=.int .i64 j∧j≤tn∧Hid (jU td=jU (td.drop j))∧Sat W wr (sep (kn I) (sep (blk B (.cells #[.slice ta tn tc,.slice ca cn cc] 30 (0,0))) A))) (fun iv _=>tn-(intOf iv).toNat)
  case atStart=>exact⟨0,rfl,by omega,ah rfl,H1.out.p1⟩
  case round=>
   obtain⟨j,rfl,hj,HV,hS⟩:=hrel
   by_cases hlt:j<tn
   ·as_aux_lemma=>
    have hltz:(j:Int)<(tn:Int):=by omega
    obtain⟨f,hf⟩:∃f,td[j]?=some f:=⟨_,List.getElem?_eq_getElem (by have:=HX.out.2.2.1;omega)⟩
    obtain⟨b,o,p,q,x1,n1,c1,x2,n2,c2,rfl,hrf,hcell⟩:=gQ HX.out.1 hf
    obtain⟨j0,j1,j2,j3⟩:=hcell wr hS.ext
    have hfs:=HXB.out.1 f (List.mem_of_getElem? hf)
    have hAl:=hS.alloc (.cells #[.int .i64 p,.int .i64 q,.slice x1 n1 c1,.slice x2 n2 c2] 34)
    obtain⟨GA,QG⟩:=aC (wr.heap.size)
    obtain⟨w4,hw4⟩:=aC (wr.alloc (.cells #[.int .i64 p,.int .i64 q,.slice x1 n1 c1,.slice x2 n2 c2] 34))
    rw[←QG,←hw4] at hAl
    obtain⟨k0,k1,k2,k3⟩:=kS hAl
    have sV:=ah (kD f p q x1 n1 c1 x2 n2 c2 hrf hfs.1 hfs.2 hAl.p1)
    obtain⟨fe,hfe⟩:=aC (jO f)
    have hdr:=HV.out.trans (Ec hf)
    rw[←hfe] at sV hdr
    have HDR:=ah hdr
    have VT:=ah hlt
    have SX:=ah (And.intro QG hw4)
    clear hrf hcell hfs hfe hdr hf hlt hj hS H1 hAl QG hw4
    go_upto_region 6 with (fail)
    rw[←SX.out.1,←SX.out.2]
    clear j0 j1 j2 j3
    go_wp2_with fail
    refine sV.out.mono ?_
    rintro e w2 ⟨rfl,h2⟩
    clear k0 k1 k2 k3 sV
    have H2:Hid (Sat W w2 (sep (kn I) (sep (blk B (.cells #[.slice (some ⟨b,o,none⟩) tn tc,.slice ca cn cc] 30 (0,0))) A))):=ah (show Sat W w2 (sep (blk GA (.cells #[.int .i64 p,.int .i64 q,.slice x1 n1 c1,.slice x2 n2 c2] 34 (0,0))) (sep (kn I) (sep (blk B (.cells #[.slice (some ⟨b,o,none⟩) tn tc,.slice ca cn cc] 30 (0,0))) A))) from h2.p1).forget
    clear h2
    by_cases he0:fe=0
    ·subst he0
     have Xp:Hid (jU td=jU (td.drop (j+1))):=ah (by rw[HDR.out];simp)
     clear HDR
     go_wp2
     go_roundw
     case rel=>exact⟨j+1,by go_num,by have:=VT.out;omega,Xp,H2.out⟩
     case measure=>simp[intOf];have:=VT.out;omega
    ·have he1:(fe !=0)=true:=by simpa using he0
     have he2:(fe==0)=false:=by simpa using he0
     have HF:Hid (rv=fe):=ah (by rw[HR1.out,HDR.out];simp[he0])
     clear he0
     go_wp2
     rw[bP.out]
     exact⟨_,I,by rw[HF.out];rfl,Mem.le_refl _,H2.out.p1.drop⟩
   ·obtain rfl:j=tn:=by omega
    as_aux_lemma=>
    have hv4:=HV.out
    rw[List.drop_of_length_le (by have:=HX.out.2.2.1;omega)] at hv4
    have HR2:Hid (rv=if qF cl≠0 then qF cl else match jv cl cl.length with|none=>4|some s=>if 128<(Fm.aT td).length+s then 4 else 0):=ah (by rw[HR1.out,hv4];rfl)
    obtain⟨k0,k1,-,-⟩:=jL hS.p1
    have Xq:=ah (kY ca cn cc cl HX.out.2.1 HXB.out.2 hS)
    obtain⟨ce,hce⟩:=aC (qF cl)
    rw[←hce] at Xq
    have Hr:=ah hce
    have h4:jU td=0:=hv4
    have wR:Hid (Fm.sizes td≤1600):=ah (by
     have key:∀l:List Fm,jU l=0→Fm.sizes l≤96*l.length:=by
      intro l
      induction l with
      | nil=>intro _;simp[Fm.sizes]
      | cons f l ihl=>
       intro h0
       rw[jU] at h0
       split at h0
       ·rename_i h6;exact absurd h0 h6
       ·rename_i h6
        have h7:=kF (Classical.not_not.1 h6)
        have h8:=ihl h0
        rw[Fm.sizes,List.length_cons];omega
     have:=key td h4
     have:=HX.out.2.2.1;have:=Y3.out
     omega)
    clear hv4 h4 hce hS hj hlt HR1 H1
    go_upto_region 10 with (fail)
    go_wp2_with fail
    refine Xq.out.mono ?_
    rintro e w2 ⟨rfl,h2⟩
    clear k0 k1 Xq
    have H2:=ah h2
    clear h2
    by_cases he0:ce=0
    ·subst he0
     have HR3:Hid (rv=match jv cl cl.length with|none=>4|some s=>if 128<(Fm.aT td).length+s then 4 else 0):=ah (by rw[HR2.out,←Hr.out];rfl)
     have hc32:=(qZ Hr.out.symm).1
     have aa6:(cn:Int)≤32:=by have:=HX.out.2.2.2;omega
     obtain⟨k0,k1,-,-⟩:=jL H2.out.p1
     have HDP:=ah (I7 td w2 _ I ta j tc HX.out.1 (by have:=wR.out;unfold nM;omega) H2.out)
     clear hc32 HR2
     go_upto_region 13 with (fail)
     go_wp2_with fail
     refine HDP.out.mono ?_
     rintro e w3 ⟨bO,m,d,vs,J,rfl,hm,sQ,hrJ,h3⟩
     have Y5:m≤1600:=by
      rw[hm]
      have h4:=Fm.oC td
      have:=wR.out
      omega
     have kL:=ah (And.intro hm (And.intro sQ hrJ))
     have HMB:=ah Y5
     have H3:=ah h3
     clear H2 HDP k0 k1 hm sQ hrJ h3
     obtain⟨-,k1,-,-⟩:=jL H3.out.p2
     go_upto_region 14 with (fail)
     go_wp2_with fail
     clear k1
     go_loopw [8,41] (fun ov iv wr=>∃(i m2 d2 s:Nat) (b2:Option Addr) (vs2:List Value) (J2:Mem),ov=.slice b2 m2 d2∧iv=.int .i64 i∧i≤cn∧m2≤1600+i*64∧Hid (jv cl i=some s∧m2=m+s∧Mem.le J J2)∧Sat W wr (sep (aY 34 4 b2 m2 d2 vs2) (sep (kn J2) (sep (blk B (.cells #[.slice ta j tc,.slice ca cn cc] 30 (0,0))) A)))) (fun _ iv _=>cn-(intOf iv).toNat)
     case atStart=>exact⟨0,m,d,0,bO,vs,J,rfl,rfl,by omega,by have:=HMB.out;omega,ah ⟨rfl,rfl,Mem.le_refl _⟩,H3.out⟩
     case round=>
      obtain⟨i,m2,d2,s,b2,vs2,J2,rfl,rfl,hi,hm2,qw,hS2⟩:=hrel
      obtain⟨k0,k1,-,-⟩:=jL hS2.p2
      by_cases hlt2:i<cn
      ·have QF:(i:Int)<(cn:Int):=by omega
       have qH:=ah (OL ca cn cc cl ((kV.slice 5).mono (Mem.le_trans kL.out.2.1 qw.out.2.2) HX.out.2.1) Hr.out.symm HXB.out.2 i (by have:=HX.out.2.2.2;omega) hS2.p1)
       obtain⟨av,hav⟩:=aC (eY cl i)
       rw[←hav] at qH
       have Dh:=ah (And.intro hav (And.intro hlt2 hm2))
       have aa8:(m2:Int)≤3700:=by omega
       clear hav hS2 hlt2 hi hm2 H3
       go_upto_region 17 with (fail)
       go_wp2_with fail
       refine qH.out.mono ?_
       rintro e w5 ⟨a3,n3,c3,J3,rfl,hle3,hres,h5⟩
       clear k0 k1 qH
       have H5:=ah (show Sat W w5 (sep (aY 34 4 b2 m2 d2 vs2) (sep (kn J3) (sep (blk B (.cells #[.slice ta j tc,.slice ca cn cc] 30 (0,0))) A))) from h5.p1)
       have Xr:=ah hle3
       cases av with
       | none=>
        have HF:Hid (rv=4):=ah (by rw[HR3.out,xw Dh.out.1.symm cl.length (by have:=HX.out.2.2.2;have:=Dh.out.2.1;omega)])
        have HF2:=ah (H5.out.dP.p1.drop)
        clear h5 hle3 hres H5
        go_wp2
        rw[bP.out]
        exact⟨_,J3,by rw[HF.out];rfl,Mem.le_trans (Mem.le_trans kL.out.2.1 qw.out.2.2) Xr.out,HF2.out⟩
       | some y=>
        obtain⟨hn3,hr3⟩:=hres y rfl
        obtain⟨us,wM,hu0,hu1,hur,je⟩:=jY hr3
        have HU:=ah (And.intro wM (And.intro hu0 (And.intro hu1 (je w5 h5.ext))))
        have Xt:=vX Dh.out.1.symm
        have HN:=ah (And.intro hn3 (show n3≤64 by omega))
        have hmn:m2+n3≤3800:=by omega
        have PV:=ah hmn
        clear h5 hle3 hres wM hu0 hu1 hur je hn3 hr3 Xt hmn
        go_wp2_with (at_builtin;go_loud (refine aV rfl _ _ 27 rfl 34 4 64 _ Tryz.underlying27 gX rfl rfl H5.out rfl us HU.out.1 HU.out.2.1 HU.out.2.2.2 HU.out.2.2.1 (by have:=PV.out;omega) (by unfold maxLen;have:=PV.out;omega) ?_))
        intro a4 c4 w4 h4
        have H4:=ah h4
        clear h4 H5
        go_wp2
        go_roundw
        case rel=>exact⟨i+1,m2+n3,c4,s+y.length,a4,vs2++us,J3,rfl,by go_num,by have:=Dh.out.2.1;omega,by have:=Dh.out.2.2;have:=HN.out.2;rw[Nat.add_mul];omega,ah ⟨Az qw.out.1 Dh.out.1.symm,by rw[qw.out.2.1,HN.out.1];omega,Mem.le_trans qw.out.2.2 Xr.out⟩,H4.out⟩
        case measure=>simp[intOf];have:=Dh.out.2.1;omega
      ·obtain rfl:i=cn:=by omega
       have HR4:Hid (rv=if 128<m2 then 4 else 0):=ah (by
        have h1:=qw.out.1
        rw[HX.out.2.2.2] at h1
        rw[HR3.out,h1]
        show (if 128<(Fm.aT td).length+s then (4:Int) else 0)=_
        rw[←kL.out.1,←qw.out.2.1])
       have HF2:=ah (hS2.dP.p1.drop)
       by_cases FQ:128<m2
       ·have QN:(128:Int)<(m2:Int):=by omega
        have HF:Hid (rv=4):=ah (by rw[HR4.out,if_pos FQ])
        clear FQ hS2 H3
        go_wp2
        rw[bP.out]
        exact⟨_,J2,by (rw[HF.out];try rfl),Mem.le_trans kL.out.2.1 qw.out.2.2,HF2.out⟩
       ·have QN:¬(128:Int)<(m2:Int):=by omega
        have HF:Hid (rv=0):=ah (by rw[HR4.out,if_neg FQ])
        clear FQ hS2 H3
        go_wp2
        rw[bP.out]
        exact⟨_,J2,by (rw[HF.out];try rfl),Mem.le_trans kL.out.2.1 qw.out.2.2,HF2.out⟩
    ·have he1:(ce !=0)=true:=by simpa using he0
     have he2:(ce==0)=false:=by simpa using he0
     have HF:Hid (rv=ce):=ah (by rw[HR2.out,←Hr.out];simp[he0])
     have HF2:=ah (H2.out.p1.drop)
     clear he0 H2
     go_wp2
     rw[bP.out]
     exact⟨_,I,by (rw[HF.out];try rfl),Mem.le_refl _,HF2.out⟩
theorem wo {W w:World} {A:aB} {I:Mem} (ta:Option Addr) (tn tc:Nat) (ca:Option Addr) (cn cc:Nat) (td:List Fm) (cl:List Cl) (ht:(rF.slice 4).rel I [.slice ta tn tc] td) (hc:(kV.slice 5).rel I [.slice ca cn cc] cl) (hT:∀f∈td,IL f) (hB:∀x∈cl,IL x.body) (h:Sat W w (sep (kn I) A)):
 Calls Tryz.prog 128 #[.agg #[.slice ta tn tc,.slice ca cn cc]] w fun e w'=>∃J,e=.returned (.int .i64 (FP td cl))∧Mem.le I J∧Sat W w' (sep (kn J) A):=by
 have h1:=h.alloc (.cells #[.slice ta tn tc,.slice ca cn cc] 30)
 obtain⟨B,hBb⟩:=aC (w.heap.size)
 obtain⟨w1,hw1⟩:=aC (w.alloc (.cells #[.slice ta tn tc,.slice ca cn cc] 30))
 rw[←hBb,←hw1] at h1
 have HB:=ah (And.intro hBb hw1)
 obtain⟨k0,k1,-,-⟩:=jL h1
 have HD:=ah (yY ta tn tc ca cn cc td cl ht hc hT hB h1.p1)
 obtain⟨rv,dJ⟩:=aC (FP td cl)
 rw[←dJ] at HD ⊢
 clear ht hc hT hB h h1 hBb hw1 dJ
 go_enter Tryz.func128,Tryz.ntmps128
 go_upto_region 1 with (fail)
 rw[←HB.out.1,←HB.out.2]
 go_wp2_with fail
 refine HD.out.mono ?_
 rintro e w2 ⟨v,J,rfl,hle,h2⟩
 have H2:=ah (And.intro hle h2.p1.drop)
 clear hle h2 HD k0 k1
 go_wp2
 go_ret
 exact⟨J,rfl,H2.out.1,H2.out.2⟩
end Go.Proofs.YthfmaclnccdcbaaGreatDoor
namespace Go.Proofs.YthfmaclnccdcbaaGreatDoor
open Go.RowKit PA
theorem ML:okR ⟨1,1⟩=true:=ru 1 1 (by omega) (by omega) (by decide) (by rfl)
def UE (n d:Int):Int:=if okR ⟨n,d⟩=true then (if n<d then -1 else if d<n then 1 else 0) else 0
theorem ltR_1 (n d:Int):KW ⟨n,d⟩ ⟨1,1⟩=decide (n<d):=by unfold KW;simp
theorem ltR_1' (n d:Int):KW ⟨1,1⟩ ⟨n,d⟩=decide (d<n):=by unfold KW;simp
set_option maxHeartbeats 1000000 in
theorem JK {W w:World} {A:aB} (n d:Int) (h:Sat W w A):
 Calls Tryz.prog 164 #[.agg #[.int .i64 n,.int .i64 d],.agg #[.int .i64 1,.int .i64 1]] w fun e w'=>e=.returned (.int .i64 (N9 (okR ⟨n,d⟩)))∧Sat W w' A:=by
 have h1:=(h.alloc (.cells #[.int .i64 n,.int .i64 d] 26)).alloc (.cells #[.int .i64 1,.int .i64 1] 26)
 rw[World.size_alloc] at h1
 obtain⟨B,hB⟩:=aC (w.heap.size)
 obtain⟨w1,hw1⟩:=aC ((w.alloc (.cells #[.int .i64 n,.int .i64 d] 26)).alloc (.cells #[.int .i64 1,.int .i64 1] 26))
 rw[←hB,←hw1] at h1
 have HB:=ah (And.intro hB hw1)
 obtain⟨j0,j1,-,-⟩:=jL h1
 obtain⟨k0,k1,-,-⟩:=jL h1.p1
 have HV:=ah (lg n d h1)
 obtain⟨o,ho⟩:=aC (okR ⟨n,d⟩)
 rw[←ho] at HV ⊢
 clear h h1 hB hw1 ho
 cases o with
 | false=>
  go_enter Tryz.func164,Tryz.ntmps164
  go_upto_region 1 with (fail)
  simp only[←HB.out.1]
  rw[←HB.out.2]
  go_wp2_with fail
  refine HV.out.mono ?_
  rintro e w2 ⟨rfl,h2⟩
  have H2:=ah h2.drop.drop
  clear h2 HV j0 j1 k0 k1
  unfold N9
  go_wp2
  go_ret
  exact⟨rfl,H2.out⟩
 | true=>
  go_enter Tryz.func164,Tryz.ntmps164
  go_upto_region 1 with (fail)
  simp only[←HB.out.1]
  rw[←HB.out.2]
  go_wp2_with fail
  refine HV.out.mono ?_
  rintro e w2 ⟨rfl,h2⟩
  obtain⟨j0,j1,-,-⟩:=jL h2
  have hv2:=lg 1 1 h2
  rw[ML] at hv2
  have kL:=ah hv2
  clear h2 HV k0 k1 hv2
  unfold N9
  go_wp2_with fail
  refine kL.out.mono ?_
  rintro e w3 ⟨rfl,h3⟩
  have H3:=ah h3.drop.drop
  clear h3 kL j0 j1
  unfold N9
  go_wp2
  go_ret
  exact⟨rfl,H3.out⟩
set_option maxHeartbeats 1000000 in
theorem MN {W w:World} {A:aB} (n d:Int) (h:Sat W w A):
 Calls Tryz.prog 121 #[.agg #[.int .i64 n,.int .i64 d],.agg #[.int .i64 1,.int .i64 1]] w fun e w'=>∃ev:Int,e=.returned (.tuple #[.int .i64 (UE n d),.int .i64 ev])∧Sat W w' A:=by
 have h1:=(h.alloc (.cells #[.int .i64 n,.int .i64 d] 26)).alloc (.cells #[.int .i64 1,.int .i64 1] 26)
 rw[World.size_alloc] at h1
 obtain⟨B,hB⟩:=aC (w.heap.size)
 obtain⟨w1,hw1⟩:=aC ((w.alloc (.cells #[.int .i64 n,.int .i64 d] 26)).alloc (.cells #[.int .i64 1,.int .i64 1] 26))
 rw[←hB,←hw1] at h1
 have HB:=ah (And.intro hB hw1)
 obtain⟨j0,j1,-,-⟩:=jL h1
 obtain⟨k0,k1,-,-⟩:=jL h1.p1
 have HV:=ah (JK n d h1)
 obtain⟨o,ho⟩:=aC (okR ⟨n,d⟩)
 obtain⟨cv,hcv⟩:=aC (UE n d)
 have hcv2:cv=if o=true then (if n<d then -1 else if d<n then 1 else 0) else 0:=by rw[hcv,ho];rfl
 have SV:Hid (o=true→∀w' A',Sat W w' A'→Calls Tryz.prog 165 #[.agg #[.int .i64 n,.int .i64 d],.agg #[.int .i64 1,.int .i64 1]] w' fun e w''=>e=.returned (.bool (decide (n<d)))∧Sat W w'' A'):=ah fun e w' A' h'=>by
  rw[←ltR_1];exact qg ⟨n,d⟩ ⟨1,1⟩ (mD (by rw[←ho];exact e)).1 (mD ML).1 h'
 have HL2:Hid (o=true→∀w' A',Sat W w' A'→Calls Tryz.prog 165 #[.agg #[.int .i64 1,.int .i64 1],.agg #[.int .i64 n,.int .i64 d]] w' fun e w''=>e=.returned (.bool (decide (d<n)))∧Sat W w'' A'):=ah fun e w' A' h'=>by
  rw[←ltR_1'];exact qg ⟨1,1⟩ ⟨n,d⟩ (mD ML).1 (mD (by rw[←ho];exact e)).1 h'
 rw[←ho] at HV
 rw[←hcv]
 have S9:=ah hcv2
 obtain⟨Po,fK⟩:∃P:Ending→World→Prop,P=fun e w'=>∃ev:Int,e=.returned (.tuple #[.int .i64 cv,.int .i64 ev])∧Sat W w' A:=⟨_,rfl⟩
 rw[←fK]
 have bP:=ah fK
 clear h h1 hB hw1 ho hcv hcv2 fK
 cases o with
 | false=>
  go_enter Tryz.func121,Tryz.ntmps121
  go_upto_region 1 with (fail)
  simp only[←HB.out.1]
  rw[←HB.out.2]
  go_wp2_with fail
  refine HV.out.mono ?_
  rintro e w2 ⟨rfl,h2⟩
  have H2:=ah h2.drop.drop
  clear h2 HV j0 j1 k0 k1 SV HL2
  unfold N9
  go_wp2
  rw[bP.out]
  exact⟨1,by rw[S9.out];rfl,H2.out⟩
 | true=>
  go_enter Tryz.func121,Tryz.ntmps121
  go_upto_region 1 with (fail)
  simp only[←HB.out.1]
  rw[←HB.out.2]
  go_wp2_with fail
  refine HV.out.mono ?_
  rintro e w2 ⟨rfl,h2⟩
  clear j0 j1 k0 k1
  obtain⟨j0,j1,-,-⟩:=jL h2
  obtain⟨k0,k1,-,-⟩:=jL h2.p1
  have H2:=ah h2
  clear h2 HV
  unfold N9
  go_wp2_with fail
  refine (SV.out (by first|rfl|trivial) _ _ H2.out).mono ?_
  rintro e w3 ⟨rfl,h3⟩
  clear j0 j1 k0 k1
  obtain⟨j0,j1,-,-⟩:=jL h3
  obtain⟨k0,k1,-,-⟩:=jL h3.p1
  have H3:=ah h3
  clear h3 H2 SV
  by_cases c1:n<d
  ·have HF:=ah H3.out.drop.drop
   have HC:Hid (cv=-1):=ah (by rw[S9.out];simp[c1])
   clear HL2
   go_wp2
   rw[bP.out]
   exact⟨0,by rw[HC.out];rfl,HF.out⟩
  ·go_wp2_with fail
   refine (HL2.out (by first|rfl|trivial) _ _ H3.out).mono ?_
   rintro e w4 ⟨rfl,h4⟩
   have HF:=ah h4.drop.drop
   clear h4 H3 j0 j1 k0 k1
   by_cases c2:d<n
   ·have HC:Hid (cv=1):=ah (by rw[S9.out];simp only[if_true];rw[if_neg (by omega),if_pos c2])
    go_wp2
    rw[bP.out]
    exact⟨0,by rw[HC.out];rfl,HF.out⟩
   ·have HC:Hid (cv=0):=ah (by rw[S9.out];simp only[if_true];rw[if_neg (by omega),if_neg (by omega)])
    go_wp2
    rw[bP.out]
    exact⟨0,by rw[HC.out];rfl,HF.out⟩
theorem nS {W w:World} {A:aB} {I:Mem} (a:Option Addr) (n c:Nat) (l:List Cl) (hv:(kV.slice 5).rel I [.slice a n c] l) (hB:∀x∈l,x.body.size≤mW) (h:Sat W w (sep (kn I) A)):
 Calls Tryz.prog 120 #[.slice a n c] w fun e w'=>e=.returned (.bool (fP l))∧Sat W w' (sep (kn I) A):=by
 have hn:=(aI hv).1
 have hl63:=(aI hv).2.2
 have HV:=ah (nP a n c l hv hB h)
 obtain⟨ce,hce⟩:=aC (qF l)
 obtain⟨rv,dJ⟩:=aC (fP l)
 have jk:rv=(decide (0<n)&&decide (ce=0)):=by rw[dJ,hn,hce];rfl
 rw[←hce] at HV
 rw[←dJ]
 have bI:=ah jk
 have H:=ah h
 clear hv hB h hn hce dJ jk
 by_cases h0:0<n
 ·have h0z:(0:Int)<(n:Int):=by omega
  go_enter Tryz.func120,Tryz.ntmps120
  go_wp2_with fail
  refine HV.out.mono ?_
  rintro e w2 ⟨rfl,h2⟩
  have H2:=ah h2
  clear h2 HV
  go_wp2
  go_ret
  exact⟨by rw[bI.out,decide_eq_true h0];rfl,H2.out⟩
 ·have h0z:n=0:=by omega
  subst h0z
  go_enter Tryz.func120,Tryz.ntmps120
  go_wp2
  go_ret
  exact⟨by rw[bI.out];rfl,H.out⟩
end Go.Proofs.YthfmaclnccdcbaaGreatDoor
namespace Go.Proofs.YthfmaclnccdcbaaGreatDoor
open Go.RowKit PA
theorem LP {W w:World} {A:aB} (h:Sat W w A):Sat W (w.alloc (.cells #[.slice none 0 0] 104)) (sep (dh w.heap.size []) A):=
 sG (a:=none) (n:=0) (c:=0) (bs:=[]) ((h.gK 5 1).alloc (.cells #[.slice none 0 0] 104))
theorem AP {W w:World} {A:aB} {p:Nat} {bs:List UInt8} (h:Sat W w (sep (dh p bs) A)):Sat W w A:=by
 obtain⟨a,n,c,-,h1⟩:=oG h
 exact h1.forget.dP
set_option maxRecDepth 100000 in
set_option maxHeartbeats 8000000 in
theorem tq {W w:World} {A:aB} {I:Mem} (a:Option Addr) (n c:Nat) (l:List Cl) (hv:(kV.slice 5).rel I [.slice a n c] l) (hB:∀x∈l,IL x.body) (hok:∀x∈l,LQ x) (hlen:(jm l).length≤134217728) (h:Sat W w (sep (kn I) A)):
 Calls Tryz.prog 76 #[.slice a n c] w fun e w'=>∃(b:Option Addr) (m d:Nat) (J:Mem),e=.returned (.tuple #[.slice b m d,.int .i64 (qF l)])∧Mem.le I J∧gZ.rel J [.slice b m d] (ji l)∧Sat W w' (sep (kn J) A):=by
 have hn:=(aI hv).1
 have hn63:=(aI hv).2.2
 have sV:=ah (kY a n c l hv hB h)
 obtain⟨rv,dJ⟩:=aC (qF l)
 obtain⟨E,hE⟩:=aC (ji l)
 have yj:Hid ((rv≠0→E=[])∧(rv=0→E=jm l)):=ah ⟨fun h0=>by rw[hE];unfold ji;rw[if_neg (by rw[←dJ];exact h0)],fun h0=>by rw[hE];unfold ji;rw[if_pos (by rw[←dJ];exact h0)]⟩
 rw[←dJ] at sV ⊢
 rw[←hE]
 obtain⟨Po,fK⟩:∃P:Ending→World→Prop,P=fun e w'=>∃(b:Option Addr) (m d:Nat) (J:Mem),e=.returned (.tuple #[.slice b m d,.int .i64 rv])∧Mem.le I J∧gZ.rel J [.slice b m d] E∧Sat W w' (sep (kn J) A):=⟨_,rfl⟩
 rw[←fK]
 have bP:=ah fK
 have HX:=ah (And.intro hv (And.intro hB (And.intro hok (And.intro hn dJ))))
 have HLEN:=ah hlen
 clear hv hB hok hn h hE dJ fK hlen
 by_cases hb0:rv=0
 ·subst hb0
  have abf:=(qZ HX.out.2.2.2.2.symm).1
  have hn32:(n:Int)≤32:=by have:=HX.out.2.2.2.1;omega
  have hbody:∀(k:Nat) x,l[k]?=some x→jO x.body=0∧x.refs.length≤8:=fun k x hx=>by
   obtain⟨hk,e⟩:=List.getElem?_eq_some_iff.1 hx
   have:=(qZ HX.out.2.2.2.2.symm).2 k hk
   rw[e] at this
   exact⟨this.2.2,this.1⟩
  obtain⟨V,hV⟩:∃V:Nat→List UInt8,V=fun k=>PA.encI (n:Int)++((l.take k).map tu).flatten:=⟨_,rfl⟩
  have hV0:([]:List UInt8)++PA.encI (n:Int)=V 0:=by rw[hV];simp
  have PW:∀k x,l[k]?=some x→V (k+1)=V k++lN x.refs++encR (fM x.body):=fun k x hx=>by
   rw[hV];simp only;rw[xB tu hx];unfold tu;simp only[List.append_assoc]
  have VY:V n=E:=by rw[hV,yj.out.2 rfl];simp only;rw[HX.out.2.2.2.1,List.take_length];rfl
  have OY:∀k,(V k).length≤134217728:=fun k=>by
   rw[hV];simp only
   have h1:=FY tu l k
   have h2:=HLEN.out
   unfold jm AQ at h2
   rw[fA] at h2 ⊢
   rw[HX.out.2.2.2.1];omega
  have HVV:=ah (And.intro hV0 (And.intro PW (And.intro VY OY)))
  have HBO:=ah hbody
  clear hV hV0 PW VY OY hbody abf
  go_enter Tryz.func76,Tryz.ntmps76
  go_wp2_with fail
  refine sV.out.mono ?_
  rintro e w2 ⟨rfl,h2⟩
  have h3:=LP h2
  obtain⟨P,hP⟩:=aC (w2.heap.size)
  obtain⟨w3,hw3⟩:=aC (w2.alloc (.cells #[.slice none 0 0] 104))
  rw[←hP,←hw3] at h3
  have hw:=iq P [] (n:Int) (by omega) (by omega) h3 (by simp)
  rw[HVV.out.1] at hw
  have Jc:=ah hw
  have HP:=ah (And.intro hP hw3)
  clear h2 h3 hP hw3 hw sV
  go_upto_region 5 with (fail)
  rw[←HP.out.1,←HP.out.2]
  go_wp2_with fail
  refine Jc.out.mono ?_
  rintro e w4 ⟨rfl,h4⟩
  have H4:=ah h4
  clear h4 Jc HP
  go_wp2_with fail
  go_loopw [23] (fun iv wr=>∃(k:Nat) (J:Mem),iv=.int .i64 k∧k≤n∧Hid (Mem.le I J)∧Sat W wr (sep (dh P (V k)) (sep (kn J) A))) (fun iv _=>n-(intOf iv).toNat)
  case atStart=>exact⟨0,I,rfl,by omega,ah (Mem.le_refl _),H4.out⟩
  case round=>
   obtain⟨k,J,rfl,hk,HJ,hS⟩:=hrel
   clear H4
   by_cases hlt:k<n
   ·as_aux_lemma=>
    have hltz:(k:Int)<(n:Int):=by omega
    obtain⟨x,hx⟩:∃x,l[k]?=some x:=⟨_,List.getElem?_eq_getElem (by have:=HX.out.2.2.2.1;omega)⟩
    obtain⟨b,o,ra,rc,p,q,x1,n1,c1,x2,n2,c2,rfl,hrr,hrb,hcell⟩:=vO HX.out.1 hx
    have hxm:=List.mem_of_getElem? hx
    obtain⟨hbe,Xl⟩:=HBO.out k x hx
    have hxo:=HX.out.2.2.1 x hxm
    obtain⟨j0,j1,j2,j3,j4⟩:=hcell wr (fun g u hb=>hS.p1.ext g u (HJ.out g u hb))
    have hvs:=HVV.out.2.1 k x hx
    have hvl:=HVV.out.2.2.2 k
    have hE0:jg x.body=fM x.body:=by unfold jg;rw[if_pos hbe]
    obtain⟨nr,hnr⟩:=aC (x.refs.length)
    rw[←hnr] at hrr j0 Xl
    have hAl:=hS.alloc (.cells #[.slice ra nr rc,.int .i64 p,.int .i64 q,.slice x1 n1 c1,.slice x2 n2 c2] 91)
    obtain⟨M,hM⟩:=aC (wr.heap.size)
    obtain⟨w5,hw5⟩:=aC (wr.alloc (.cells #[.slice ra nr rc,.int .i64 p,.int .i64 q,.slice x1 n1 c1,.slice x2 n2 c2] 91))
    rw[←hM,←hw5] at hAl
    obtain⟨k0,k1,k2,k3,k4⟩:=cl5 hAl
    have hfe:=nN x.body p q x1 n1 c1 x2 n2 c2 (rF.mono HJ.out hrb) (HX.out.2.1 x hxm) hxo.b64 (show Sat W w5 (sep (kn J) (sep (blk M (.cells #[.slice ra nr rc,.int .i64 p,.int .i64 q,.slice x1 n1 c1,.slice x2 n2 c2] 91 (0,0))) (sep (dh P (V k)) A))) by simpa only[au,ak,aj] using hAl)
    rw[hbe,hE0] at hfe
    have wO:=ah hfe
    have Fp:=ah (And.intro hM hw5)
    have HK:=ah (And.intro hlt (And.intro hvs (And.intro hvl (And.intro hxo hnr))))
    have HRR:=ah hrr
    clear hrr hrb hcell hxm hbe hxo hvs hvl hE0 hAl hM hw5 hfe hlt hk hS hnr hx
    go_upto_region 9 with (fail)
    rw[←Fp.out.1,←Fp.out.2]
    clear j0 j1 j2 j3 j4
    go_wp2_with fail
    refine wO.out.mono ?_
    rintro e w6 ⟨fb,fl,fc,J2,rfl,hle2,AU,h6⟩
    clear k0 k1 k2 k3 k4 wO
    have h7:Sat W w6 (sep (blk M (.cells #[.slice ra nr rc,.int .i64 p,.int .i64 q,.slice x1 n1 c1,.slice x2 n2 c2] 91 (0,0))) (sep (dh P (V k)) (sep (kn J2) A))):=by simpa only[au,ak,aj] using h6
    obtain⟨k0,-,-,-,-⟩:=cl5 h7
    have hws:=yB P (V k) ra nr rc x.refs HK.out.2.2.2.2 (by have:=HK.out.2.2.2.2;omega) HK.out.2.2.2.1.r64 (fun w' B hs j r hr=>by
     obtain⟨rb,ro,e,hrc⟩:=nZ HRR.out hr
     exact⟨rb,ro,e,hrc w' (fun g u hb=>(show Sat W w' (sep (kn J2) (sep B A)) by simpa only[au,ak,aj] using hs).ext g u (hle2 g u (HJ.out g u hb)))⟩) (show Sat W w6 (sep (dh P (V k)) (sep (kn J2) A)) from h7.forget) (by have:=HK.out.2.2.1;omega)
    have HWS:=ah hws
    have H2:=ah (And.intro hle2 AU)
    clear h6 h7 hle2 AU hws
    go_upto_region 12 with (fail)
    go_wp2_with fail
    refine HWS.out.mono ?_
    rintro e w7 ⟨rfl,h8⟩
    have hel:(lN x.refs).length≤200:=by
     have h1:=zH (l:=x.refs) (by have:=HK.out.2.2.2.2;omega) HK.out.2.2.2.1.r64 x.refs.length
     rw[wu] at h1
     have:=HK.out.2.2.2.2;omega
    have hwr:=lG P (V k++lN x.refs) (.slice fb fl fc) (fM x.body) h8 H2.out.2 (by rw[fA];have:=HK.out.2.2.1;omega) (by have:=HK.out.2.2.2.1.bl;omega)
    rw[←HK.out.2.1] at hwr
    have Je:=ah hwr
    clear h8 hwr hel HWS k0
    go_wp2_with fail
    refine Je.out.mono ?_
    rintro e w8 ⟨rfl,h9⟩
    have H9:=ah h9
    clear h9 Je
    go_wp2
    go_roundw
    case rel=>exact⟨k+1,J2,by go_num,by have:=HK.out.1;omega,ah (Mem.le_trans HJ.out H2.out.1),H9.out⟩
    case measure=>simp[intOf];have:=HK.out.1;omega
   ·obtain rfl:k=n:=by omega
    rw[HVV.out.2.2.1] at hS
    have hEl:E.length≤134217728:=by rw[←HVV.out.2.2.1];exact HVV.out.2.2.2 k
    have HD:=ah (lV P E hS (by omega))
    clear hS hlt hk hEl
    go_wp2_with fail
    refine HD.out.mono ?_
    rintro e w5 ⟨a5,c5,rfl,h5⟩
    have h6:Sat W w5 (sep (aY 5 1 a5 E.length c5 (E.map bv)) (sep (kn J) A)):=AP (by simpa only[au,ak,aj] using h5)
    obtain⟨J3,hle3,hr3,h7⟩:=pW h6 rfl
    have HF:=ah (And.intro (Mem.le_trans HJ.out hle3) (And.intro hr3 h7))
    clear h5 h6 hle3 hr3 h7 HD
    go_wp2
    rw[bP.out]
    exact⟨a5,E.length,c5,J3,rfl,HF.out.1,HF.out.2.1,HF.out.2.2⟩
 ·have Xx:=ah (yj.out.1 hb0)
  have hb1:(rv !=0)=true:=by simpa using hb0
  have hb2:(rv==0)=false:=by simpa using hb0
  clear yj hb0
  go_enter Tryz.func76,Tryz.ntmps76
  go_wp2_with fail
  refine sV.out.mono ?_
  rintro e w2 ⟨rfl,h2⟩
  have HF:=ah h2
  clear h2 sV
  go_wp2
  rw[bP.out]
  exact⟨none,0,0,I,rfl,Mem.le_refl I,by rw[Xx.out];exact pX I,HF.out⟩
end Go.Proofs.YthfmaclnccdcbaaGreatDoor
namespace Go.Proofs.YthfmaclnccdcbaaGreatDoor
open Go.RowKit PA
set_option maxRecDepth 100000 in
set_option maxHeartbeats 8000000 in
theorem Dk {W w:World} {A:aB} {I:Mem} (ta:Option Addr) (tn tc:Nat) (ca:Option Addr) (cn cc:Nat) (td:List Fm) (cl:List Cl) (ht:(rF.slice 4).rel I [.slice ta tn tc] td) (hc:(kV.slice 5).rel I [.slice ca cn cc] cl) (hT:∀f∈td,IL f) (hB:∀x∈cl,IL x.body)
 (hTO:∀f∈td,QY f) (hCO:∀x∈cl,LQ x) (hlen:(qx td cl).length≤268435456) (hlc:(jm cl).length≤134217728) (h:Sat W w (sep (kn I) A)):
 Calls Tryz.prog 73 #[.agg #[.slice ta tn tc,.slice ca cn cc]] w fun e w'=>∃(b:Option Addr) (m d:Nat) (J:Mem),e=.returned (.tuple #[.slice b m d,.int .i64 (FP td cl)])∧Mem.le I J∧gZ.rel J [.slice b m d] (nO td cl)∧Sat W w' (sep (kn J) A):=by
 have htn:=(aI ht).1
 have Y2:=(aI ht).2.2
 have h1:=h.alloc (.cells #[.slice ta tn tc,.slice ca cn cc] 30)
 obtain⟨B,hBb⟩:=aC (w.heap.size)
 obtain⟨w1,hw1⟩:=aC (w.alloc (.cells #[.slice ta tn tc,.slice ca cn cc] 30))
 rw[←hBb,←hw1] at h1
 have Qw:=ah (And.intro hBb hw1)
 obtain⟨k0,k1,-,-⟩:=jL h1
 have sV:=ah (wo ta tn tc ca cn cc td cl ht hc hT hB h1.p1)
 obtain⟨rv,dJ⟩:=aC (FP td cl)
 obtain⟨E,hE⟩:=aC (nO td cl)
 have yj:Hid ((rv≠0→E=[])∧(rv=0→E=qx td cl)):=ah ⟨fun h0=>by rw[hE];unfold nO;rw[if_neg (by rw[←dJ];exact h0)],fun h0=>by rw[hE];unfold nO;rw[if_pos (by rw[←dJ];exact h0)]⟩
 rw[←dJ] at sV ⊢
 rw[←hE]
 obtain⟨Po,fK⟩:∃P:Ending→World→Prop,P=fun e w'=>∃(b:Option Addr) (m d:Nat) (J:Mem),e=.returned (.tuple #[.slice b m d,.int .i64 rv])∧Mem.le I J∧gZ.rel J [.slice b m d] E∧Sat W w' (sep (kn J) A):=⟨_,rfl⟩
 rw[←fK]
 have bP:=ah fK
 have HX:=ah (And.intro ht (And.intro hc (And.intro hT (And.intro hB (And.intro hTO (And.intro hCO htn))))))
 have HLEN:=ah (And.intro hlen hlc)
 clear ht hc hT hB hTO hCO htn h h1 hBb hw1 hE dJ fK hlen hlc
 by_cases hb0:rv=0
 ·subst hb0
  have hEn:E=qx td cl:=yj.out.2 rfl
  have htl:tn≤268435456:=by
   have key:∀l:List Fm,l.length≤(Ef l).length:=by
    intro l
    induction l with
    | nil=>simp
    | cons g l ih=>
     unfold Ef at ih ⊢
     rw[List.map_cons,List.flatten_cons,fA,List.length_cons]
     have:1≤(encR (jg g)).length:=by
      unfold encR;rw[fA]
      have:=uvarint_pos (jg g).length
      omega
     omega
   have h1:=key td
   have h2:=HLEN.out.1
   unfold qx at h2
   simp only[fA] at h2
   rw[HX.out.2.2.2.2.2.2];omega
  obtain⟨V,hV⟩:∃V:Nat→List UInt8,V=fun k=>PA.encI (tn:Int)++((td.take k).map fun f=>encR (jg f)).flatten:=⟨_,rfl⟩
  have hV0:([]:List UInt8)++PA.encI (tn:Int)=V 0:=by rw[hV];simp
  have PW:∀k x,td[k]?=some x→V (k+1)=V k++encR (jg x):=fun k x hx=>by
   rw[hV];simp only;rw[xB (fun f=>encR (jg f)) hx,List.append_assoc]
  have VY:V tn++encR (ji cl)=E:=by rw[hV,hEn];simp only;rw[HX.out.2.2.2.2.2.2,List.take_length];rfl
  have OY:∀k,(V k).length≤268435456:=fun k=>by
   rw[hV];simp only
   have h1:=FY (fun f=>encR (jg f)) td k
   have h2:=HLEN.out.1
   unfold qx Ef at h2
   simp only[fA] at h2 ⊢
   rw[HX.out.2.2.2.2.2.2];omega
  have hEl:E.length≤268435456:=by rw[hEn];exact HLEN.out.1
  have HVV:=ah (And.intro hV0 (And.intro PW (And.intro VY (And.intro OY hEl))))
  clear hV hV0 PW VY OY hEn hEl
  go_enter Tryz.func73,Tryz.ntmps73
  go_upto_region 1 with (fail)
  rw[←Qw.out.1,←Qw.out.2]
  go_wp2_with fail
  refine sV.out.mono ?_
  rintro e w2 ⟨J,rfl,hle,h2⟩
  have h3:=LP h2
  obtain⟨P,hP⟩:=aC (w2.heap.size)
  obtain⟨w3,hw3⟩:=aC (w2.alloc (.cells #[.slice none 0 0] 104))
  rw[←hP,←hw3] at h3
  have h4:Sat W w3 (sep (dh P []) (sep (kn J) (sep (blk B (.cells #[.slice ta tn tc,.slice ca cn cc] 30 (0,0))) A))):=h3
  have hw:=iq P [] (tn:Int) (by omega) (by omega) h4 (by simp)
  rw[HVV.out.1] at hw
  have Jc:=ah hw
  have HP:=ah (And.intro hP hw3)
  have iV:=ah hle
  clear k0 k1
  obtain⟨k0,k1,-,-⟩:=jL h4.p2
  clear h2 h3 h4 hP hw3 hw sV hle
  go_upto_region 5 with (fail)
  rw[←HP.out.1,←HP.out.2]
  go_wp2_with fail
  refine Jc.out.mono ?_
  rintro e w4 ⟨rfl,h5⟩
  clear k0 k1
  obtain⟨k0,k1,-,-⟩:=jL h5.p2
  have H5:=ah h5
  clear h5 Jc HP
  go_upto_block 0 with (fail)
  clear k0 k1
  go_wp2_with fail
  go_loopw [24] (fun iv wr=>∃(k:Nat) (J2:Mem),iv=.int .i64 k∧k≤tn∧Hid (Mem.le J J2)∧Sat W wr (sep (dh P (V k)) (sep (kn J2) (sep (blk B (.cells #[.slice ta tn tc,.slice ca cn cc] 30 (0,0))) A)))) (fun iv _=>tn-(intOf iv).toNat)
  case atStart=>exact⟨0,J,rfl,by omega,ah (Mem.le_refl _),H5.out⟩
  case round=>
   obtain⟨k,J2,rfl,hk,HJ,hS⟩:=hrel
   clear H5
   by_cases hlt:k<tn
   ·as_aux_lemma=>
    have hltz:(k:Int)<(tn:Int):=by omega
    obtain⟨f,hf⟩:∃f,td[k]?=some f:=⟨_,List.getElem?_eq_getElem (by have:=HX.out.2.2.2.2.2.2;omega)⟩
    obtain⟨b,o,p,q,x1,n1,c1,x2,n2,c2,rfl,hrf,hcell⟩:=gQ HX.out.1 hf
    have hfm:=List.mem_of_getElem? hf
    have LU:Mem.le I J2:=Mem.le_trans iV.out HJ.out
    obtain⟨j0,j1,j2,j3⟩:=hcell wr (fun g u hb=>hS.p1.ext g u (LU g u hb))
    have hvs:=HVV.out.2.1 k f hf
    have hvl:=HVV.out.2.2.2.1 k
    have hAl:=hS.alloc (.cells #[.int .i64 p,.int .i64 q,.slice x1 n1 c1,.slice x2 n2 c2] 34)
    obtain⟨M,hM⟩:=aC (wr.heap.size)
    obtain⟨w5,hw5⟩:=aC (wr.alloc (.cells #[.int .i64 p,.int .i64 q,.slice x1 n1 c1,.slice x2 n2 c2] 34))
    rw[←hM,←hw5] at hAl
    obtain⟨k0,k1,k2,k3⟩:=kS hAl
    have hfe:=nN f p q x1 n1 c1 x2 n2 c2 (rF.mono LU hrf) (HX.out.2.2.1 f hfm) (HX.out.2.2.2.2.1 f hfm).b64 (show Sat W w5 (sep (kn J2) (sep (blk M (.cells #[.int .i64 p,.int .i64 q,.slice x1 n1 c1,.slice x2 n2 c2] 34 (0,0))) (sep (dh P (V k)) (sep (blk B (.cells #[.slice (some ⟨b,o,none⟩) tn tc,.slice ca cn cc] 30 (0,0))) A)))) by simpa only[au,ak,aj] using hAl)
    have hfl:=lW (HX.out.2.2.2.2.1 f hfm).bl
    obtain⟨fv,hfv⟩:=aC (jO f)
    rw[←hfv] at hfe
    have wO:=ah hfe
    have Fp:=ah (And.intro hM hw5)
    have HK:=ah (And.intro hlt (And.intro hvs (And.intro hvl hfl)))
    clear hrf hcell hfm hvs hvl hAl hM hw5 hfe hlt hk hS hf hfl hfv LU
    go_upto_region 9 with (fail)
    rw[←Fp.out.1,←Fp.out.2]
    clear j0 j1 j2 j3
    go_wp2_with fail
    refine wO.out.mono ?_
    rintro e w6 ⟨fb,fl,fc,J3,rfl,hle3,Jf,h6⟩
    clear k0 k1 k2 k3 wO
    have h7:Sat W w6 (sep (dh P (V k)) (sep (kn J3) (sep (blk B (.cells #[.slice (some ⟨b,o,none⟩) tn tc,.slice ca cn cc] 30 (0,0))) A))):=by
     have h8:Sat W w6 (sep (blk M (.cells #[.int .i64 p,.int .i64 q,.slice x1 n1 c1,.slice x2 n2 c2] 34 (0,0))) (sep (dh P (V k)) (sep (kn J3) (sep (blk B (.cells #[.slice (some ⟨b,o,none⟩) tn tc,.slice ca cn cc] 30 (0,0))) A)))):=by simpa only[au,ak,aj] using h6
     exact h8.forget
    have hwr:=lG P (V k) (.slice fb fl fc) (jg f) h7 Jf (by have:=HK.out.2.2.1;omega) (by have:=HK.out.2.2.2;omega)
    rw[←HK.out.2.1] at hwr
    have Je:=ah hwr
    have H3:=ah hle3
    clear h6 h7 hle3 Jf hwr
    go_wp2_with fail
    refine Je.out.mono ?_
    rintro e w8 ⟨rfl,h9⟩
    have H9:=ah h9
    clear h9 Je
    go_wp2
    go_roundw
    case rel=>exact⟨k+1,J3,by go_num,by have:=HK.out.1;omega,ah (Mem.le_trans HJ.out H3.out),H9.out⟩
    case measure=>simp[intOf];have:=HK.out.1;omega
   ·obtain rfl:k=tn:=by omega
    have LU:Mem.le I J2:=Mem.le_trans iV.out HJ.out
    obtain⟨k0,k1,-,-⟩:=jL hS.p2
    have hce:=tq ca cn cc cl ((kV.slice 5).mono LU HX.out.2.1) HX.out.2.2.2.1 HX.out.2.2.2.2.2.1 HLEN.out.2 (show Sat W wr (sep (kn J2) (sep (dh P (V k)) (sep (blk B (.cells #[.slice ta k tc,.slice ca cn cc] 30 (0,0))) A))) from hS.p1)
    obtain⟨cv,hcv⟩:=aC (qF cl)
    rw[←hcv] at hce
    have Hr:=ah hce
    have HL:=ah (And.intro LU (HVV.out.2.2.2.1 k))
    clear hS hlt hk hce hcv LU
    go_upto_region 12 with (fail)
    go_wp2_with fail
    refine Hr.out.mono ?_
    rintro e w5 ⟨fb,fl,fc,J3,rfl,hle3,Jf,h6⟩
    have hwr:=lG P (V k) (.slice fb fl fc) (ji cl) (show Sat W w5 (sep (dh P (V k)) (sep (kn J3) (sep (blk B (.cells #[.slice ta k tc,.slice ca cn cc] 30 (0,0))) A))) from h6.p1) Jf (by have:=HL.out.2;omega) (by have:=jW HLEN.out.2;omega)
    rw[HVV.out.2.2.1] at hwr
    have Je:=ah hwr
    have H3:=ah hle3
    clear h6 hle3 Jf hwr Hr k0 k1
    go_wp2_with fail
    refine Je.out.mono ?_
    rintro e w6 ⟨rfl,h7⟩
    have hdn:=lV P E h7 (by have:=HVV.out.2.2.2.2;omega)
    have HD:=ah hdn
    clear h7 hdn Je
    go_wp2_with fail
    refine HD.out.mono ?_
    rintro e w7 ⟨a5,c5,rfl,h8⟩
    have h9:Sat W w7 (sep (aY 5 1 a5 E.length c5 (E.map bv)) (sep (kn J3) (sep (blk B (.cells #[.slice ta k tc,.slice ca cn cc] 30 (0,0))) A))):=AP (by simpa only[au,ak,aj] using h8)
    obtain⟨J4,pO,hr4,h10⟩:=pW h9 rfl
    have HF:=ah (And.intro (Mem.le_trans HL.out.1 (Mem.le_trans H3.out pO)) (And.intro hr4 h10.p1.drop))
    clear h8 h9 pO hr4 h10 HD
    go_wp2
    rw[bP.out]
    exact⟨a5,E.length,c5,J4,rfl,HF.out.1,HF.out.2.1,HF.out.2.2⟩
 ·have Xx:=ah (yj.out.1 hb0)
  have hb1:(rv !=0)=true:=by simpa using hb0
  have hb2:(rv==0)=false:=by simpa using hb0
  clear yj hb0
  go_enter Tryz.func73,Tryz.ntmps73
  go_upto_region 1 with (fail)
  rw[←Qw.out.1,←Qw.out.2]
  go_wp2_with fail
  refine sV.out.mono ?_
  rintro e w2 ⟨J,rfl,hle,h2⟩
  have HF:=ah (And.intro hle h2.p1.drop)
  clear h2 sV k0 k1 hle
  go_wp2
  rw[bP.out]
  exact⟨none,0,0,J,rfl,HF.out.1,by rw[Xx.out];exact pX J,HF.out.2⟩
end Go.Proofs.YthfmaclnccdcbaaGreatDoor

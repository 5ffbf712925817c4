/- Part of a proof. -/
import Derived.Test.YthfmaclnccdcbaaGreatDoorGActsOrder21
namespace Go.Proofs.YthfmaclnccdcbaaGreatDoor
open Go.RowKit PA
set_option maxRecDepth 100000 in
set_option maxHeartbeats 8000000 in
theorem EX {W w:World} {A:aC} {I:Mem} (ta:Option Addr) (tn tc:Nat) (ca:Option Addr) (cn cc:Nat) (td:List Fm) (cl:List Cl) (ht:(rF.slice 4).rel I [.slice ta tn tc] td) (hc:(kM.slice 5).rel I [.slice ca cn cc] cl) (hT:∀f∈td,Jk f) (hB:∀x∈cl,Jk x.body)
 (hTO:∀f∈td,Qi f) (hCO:∀x∈cl,EG x) (hlen:(lU td cl).length≤268435456) (hlc:(fZ cl).length≤134217728) (h:Sat W w (sep (kn I) A)):
 Calls Tryz.prog 73 #[.agg #[.slice ta tn tc,.slice ca cn cc]] w fun e w'=>∃(b:Option Addr) (m d:Nat) (J:Mem),e=.returned (.tuple #[.slice b m d,.int .i64 (ED td cl)])∧Mem.le I J∧bT.rel J [.slice b m d] (jE td cl)∧Sat W w' (sep (kn J) A):=by
 have htn:=(aI ht).1;have ZI:=(aI ht).2.2;have h1:=h.alloc (.cells #[.slice ta tn tc,.slice ca cn cc] 30);obtain⟨B,hBb⟩:=aB (w.heap.size);obtain⟨w1,hw1⟩:=aB (w.alloc (.cells #[.slice ta tn tc,.slice ca cn cc] 30));rw[←hBb,←hw1] at h1;have Sr:=ah (And.intro hBb hw1);obtain⟨k0,k1,-,-⟩:=kG h1;have sG:=ah (xQ ta tn tc ca cn cc td cl ht hc hT hB h1.p1);obtain⟨rv,dK⟩:=aB (ED td cl);obtain⟨E,hE⟩:=aB (jE td cl);have rM:Hid ((rv≠0→E=[])∧(rv=0→E=lU td cl)):=ah ⟨fun h0=>by rw[hE];unfold jE;rw[if_neg (by rw[←dK];exact h0)],fun h0=>by rw[hE];unfold jE;rw[if_pos (by rw[←dK];exact h0)]⟩;rw[←dK] at sG ⊢;rw[←hE];obtain⟨Po,dU⟩:∃P:Ending→World→Prop,P=fun e w'=>∃(b:Option Addr) (m d:Nat) (J:Mem),e=.returned (.tuple #[.slice b m d,.int .i64 rv])∧Mem.le I J∧bT.rel J [.slice b m d] E∧Sat W w' (sep (kn J) A):=⟨_,rfl⟩
 rw[←dU];have bI:=ah dU;have HX:=ah (And.intro ht (And.intro hc (And.intro hT (And.intro hB (And.intro hTO (And.intro hCO htn))))));have HLEN:=ah (And.intro hlen hlc);clear ht hc hT hB hTO hCO htn h h1 hBb hw1 hE dK dU hlen hlc
 by_cases hb0:rv=0
 ·subst hb0
  have hEn:E=lU td cl:=rM.out.2 rfl;have htl:tn≤268435456:=by
   have key:∀l:List Fm,l.length≤(rQ l).length:=by
    intro l
    induction l with
    | nil=>simp
    | cons g l ih=>
     unfold rQ at ih ⊢;rw[List.map_cons,List.flatten_cons,dF,List.length_cons];have:1≤(encR (gu g)).length:=by
      unfold encR;rw[dF];have:=uvarint_pos (gu g).length;omega
     omega
   have h1:=key td;have h2:=HLEN.out.1;unfold lU at h2;simp only[dF] at h2;rw[HX.out.2.2.2.2.2.2];omega
  obtain⟨V,hV⟩:∃V:Nat→List UInt8,V=fun k=>PA.encI (tn:Int)++((td.take k).map fun f=>encR (gu f)).flatten:=⟨_,rfl⟩
  have hV0:([]:List UInt8)++PA.encI (tn:Int)=V 0:=by rw[hV];simp
  have Ai:∀k x,td[k]?=some x→V (k+1)=V k++encR (gu x):=fun k x hx=>by
   rw[hV];simp only;rw[mM (fun f=>encR (gu f)) hx,List.append_assoc]
  have Yz:V tn++encR (gU cl)=E:=by rw[hV,hEn];simp only;rw[HX.out.2.2.2.2.2.2,List.take_length];rfl
  have Ah:∀k,(V k).length≤268435456:=fun k=>by
   rw[hV];simp only;have h1:=uO (fun f=>encR (gu f)) td k;have h2:=HLEN.out.1;unfold lU rQ at h2;simp only[dF] at h2 ⊢;rw[HX.out.2.2.2.2.2.2];omega
  have hEl:E.length≤268435456:=by rw[hEn];exact HLEN.out.1
  have HVV:=ah (And.intro hV0 (And.intro Ai (And.intro Yz (And.intro Ah hEl))));clear hV hV0 Ai Yz Ah hEn hEl
  go_enter Tryz.func73,Tryz.ntmps73
  go_upto_region 1 with (fail)
  rw[←Sr.out.1,←Sr.out.2]
  go_wp2_with fail
  refine sG.out.mono ?_;rintro e w2 ⟨J,rfl,hle,h2⟩;have h3:=Ov h2;obtain⟨P,hP⟩:=aB (w2.heap.size);obtain⟨w3,hw3⟩:=aB (w2.alloc (.cells #[.slice none 0 0] 104));rw[←hP,←hw3] at h3;have h4:Sat W w3 (sep (dM P []) (sep (kn J) (sep (blk B (.cells #[.slice ta tn tc,.slice ca cn cc] 30 (0,0))) A))):=h3;have hw:=iJ P [] (tn:Int) (by omega) (by omega) h4 (by simp);rw[HVV.out.1] at hw;have Jo:=ah hw;have HP:=ah (And.intro hP hw3);have jr:=ah hle;clear k0 k1;obtain⟨k0,k1,-,-⟩:=kG h4.p2;clear h2 h3 h4 hP hw3 hw sG hle
  go_upto_region 5 with (fail)
  rw[←HP.out.1,←HP.out.2]
  go_wp2_with fail
  refine Jo.out.mono ?_;rintro e w4 ⟨rfl,h5⟩;clear k0 k1;obtain⟨k0,k1,-,-⟩:=kG h5.p2;have H5:=ah h5;clear h5 Jo HP
  go_upto_block 0 with (fail)
  clear k0 k1
  go_wp2_with fail
  go_loopw [24] (fun iv wr=>∃(k:Nat) (J2:Mem),iv=.int .i64 k∧k≤tn∧Hid (Mem.le J J2)∧Sat W wr (sep (dM P (V k)) (sep (kn J2) (sep (blk B (.cells #[.slice ta tn tc,.slice ca cn cc] 30 (0,0))) A)))) (fun iv _=>tn-(intOf iv).toNat)
  case atStart=>exact⟨0,J,rfl,by omega,ah (Mem.le_refl _),H5.out⟩
  case round=>
   obtain⟨k,J2,rfl,hk,HJ,hS⟩:=hrel;clear H5
   by_cases hlt:k<tn
   ·as_aux_lemma=>
    have hltz:(k:Int)<(tn:Int):=by omega
    obtain⟨f,hf⟩:∃f,td[k]?=some f:=⟨_,List.getElem?_eq_getElem (by have:=HX.out.2.2.2.2.2.2;omega)⟩
    obtain⟨b,o,p,q,x1,n1,c1,x2,n2,c2,rfl,hrf,hcell⟩:=gV HX.out.1 hf;have hfm:=List.mem_of_getElem? hf;have NS:Mem.le I J2:=eG jr.out HJ.out;obtain⟨j0,j1,j2,j3⟩:=hcell wr (fun g u hb=>hS.p1.ext g u (NS g u hb));have hvs:=HVV.out.2.1 k f hf;have hvl:=HVV.out.2.2.2.1 k;have hAl:=hS.alloc (.cells #[.int .i64 p,.int .i64 q,.slice x1 n1 c1,.slice x2 n2 c2] 34);obtain⟨M,hM⟩:=aB (wr.heap.size);obtain⟨w5,hw5⟩:=aB (wr.alloc (.cells #[.int .i64 p,.int .i64 q,.slice x1 n1 c1,.slice x2 n2 c2] 34));rw[←hM,←hw5] at hAl;obtain⟨k0,k1,k2,k3⟩:=kR hAl;have hfe:=pF f p q x1 n1 c1 x2 n2 c2 (rF.mono NS hrf) (HX.out.2.2.1 f hfm) (HX.out.2.2.2.2.1 f hfm).b64 (show Sat W w5 (sep (kn J2) (sep (blk M (.cells #[.int .i64 p,.int .i64 q,.slice x1 n1 c1,.slice x2 n2 c2] 34 (0,0))) (sep (dM P (V k)) (sep (blk B (.cells #[.slice (some ⟨b,o,none⟩) tn tc,.slice ca cn cc] 30 (0,0))) A)))) by simpa only[aA,ay,aj] using hAl);have hfl:=kC (HX.out.2.2.2.2.1 f hfm).bl;obtain⟨fv,hfv⟩:=aB (jV f);rw[←hfv] at hfe;have vY:=ah hfe;have GY:=ah (And.intro hM hw5);have HK:=ah (And.intro hlt (And.intro hvs (And.intro hvl hfl)));clear hrf hcell hfm hvs hvl hAl hM hw5 hfe hlt hk hS hf hfl hfv NS
    go_upto_region 9 with (fail)
    rw[←GY.out.1,←GY.out.2];clear j0 j1 j2 j3
    go_wp2_with fail
    refine vY.out.mono ?_;rintro e w6 ⟨fb,fl,fc,J3,rfl,hle3,J8,h6⟩;clear k0 k1 k2 k3 vY;have h7:Sat W w6 (sep (dM P (V k)) (sep (kn J3) (sep (blk B (.cells #[.slice (some ⟨b,o,none⟩) tn tc,.slice ca cn cc] 30 (0,0))) A))):=by
     have h8:Sat W w6 (sep (blk M (.cells #[.int .i64 p,.int .i64 q,.slice x1 n1 c1,.slice x2 n2 c2] 34 (0,0))) (sep (dM P (V k)) (sep (kn J3) (sep (blk B (.cells #[.slice (some ⟨b,o,none⟩) tn tc,.slice ca cn cc] 30 (0,0))) A)))):=dJ h6;exact h8.forget
    have hwr:=ng P (V k) (.slice fb fl fc) (gu f) h7 J8 (by have:=HK.out.2.2.1;omega) (by have:=HK.out.2.2.2;omega);rw[←HK.out.2.1] at hwr;have Jp:=ah hwr;have H3:=ah hle3;clear h6 h7 hle3 J8 hwr
    go_wp2_with fail
    refine Jp.out.mono ?_;rintro e w8 ⟨rfl,h9⟩;have H9:=ah h9;clear h9 Jp
    go_wp2
    go_roundw
    case rel=>exact⟨k+1,J3,by go_num,by have:=HK.out.1;omega,ah (eG HJ.out H3.out),H9.out⟩
    case measure=>simp[intOf];have:=HK.out.1;omega
   ·obtain rfl:k=tn:=by omega
    have NS:Mem.le I J2:=eG jr.out HJ.out;obtain⟨k0,k1,-,-⟩:=kG hS.p2;have hce:=vO ca cn cc cl ((kM.slice 5).mono NS HX.out.2.1) HX.out.2.2.2.1 HX.out.2.2.2.2.2.1 HLEN.out.2 (show Sat W wr (sep (kn J2) (sep (dM P (V k)) (sep (blk B (.cells #[.slice ta k tc,.slice ca cn cc] 30 (0,0))) A))) from hS.p1);obtain⟨cv,hcv⟩:=aB (pR cl);rw[←hcv] at hce;have EI:=ah hce;have HL:=ah (And.intro NS (HVV.out.2.2.2.1 k));clear hS hlt hk hce hcv NS
    go_upto_region 12 with (fail)
    go_wp2_with fail
    refine EI.out.mono ?_;rintro e w5 ⟨fb,fl,fc,J3,rfl,hle3,J8,h6⟩;have hwr:=ng P (V k) (.slice fb fl fc) (gU cl) (show Sat W w5 (sep (dM P (V k)) (sep (kn J3) (sep (blk B (.cells #[.slice ta k tc,.slice ca cn cc] 30 (0,0))) A))) from h6.p1) J8 (by have:=HL.out.2;omega) (by have:=jc HLEN.out.2;omega);rw[HVV.out.2.2.1] at hwr;have Jp:=ah hwr;have H3:=ah hle3;clear h6 hle3 J8 hwr EI k0 k1
    go_wp2_with fail
    refine Jp.out.mono ?_;rintro e w6 ⟨rfl,h7⟩;have hdn:=oq P E h7 (by have:=HVV.out.2.2.2.2;omega);have HD:=ah hdn;clear h7 hdn Jp
    go_wp2_with fail
    refine HD.out.mono ?_;rintro e w7 ⟨a5,c5,rfl,h8⟩;have h9:Sat W w7 (sep (aT 5 1 a5 E.length c5 (E.map bv)) (sep (kn J3) (sep (blk B (.cells #[.slice ta k tc,.slice ca cn cc] 30 (0,0))) A))):=Ez (by simpa only[aA,ay,aj] using h8);obtain⟨J4,lN,hr4,h10⟩:=iy h9 rfl;have HF:=ah (And.intro (eG HL.out.1 (eG H3.out lN)) (And.intro hr4 h10.p1.drop));clear h8 h9 lN hr4 h10 HD
    go_wp2
    rw[bI.out];exact⟨a5,E.length,c5,J4,rfl,HF.out.1,HF.out.2.1,HF.out.2.2⟩
 ·have GX:=ah (rM.out.1 hb0)
  have hb1:(rv !=0)=true:=by simpa using hb0
  have hb2:(rv==0)=false:=by simpa using hb0
  clear rM hb0
  go_enter Tryz.func73,Tryz.ntmps73
  go_upto_region 1 with (fail)
  rw[←Sr.out.1,←Sr.out.2]
  go_wp2_with fail
  refine sG.out.mono ?_;rintro e w2 ⟨J,rfl,hle,h2⟩;have HF:=ah (And.intro hle h2.p1.drop);clear h2 sG k0 k1 hle
  go_wp2
  rw[bI.out];exact⟨none,0,0,J,rfl,HF.out.1,by rw[GX.out];exact iZ J,HF.out.2⟩
end Go.Proofs.YthfmaclnccdcbaaGreatDoor

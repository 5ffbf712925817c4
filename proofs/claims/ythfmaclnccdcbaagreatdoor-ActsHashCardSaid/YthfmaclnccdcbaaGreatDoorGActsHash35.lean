/- Part of a proof. -/
import Derived.Test.YthfmaclnccdcbaaGreatDoorGActsHash34
import Derived.Test.YthfmaclnccdcbaaGreatDoorGActsHash22
namespace Go.Proofs.YthfmaclnccdcbaaGreatDoor
open Go.RowKit PA
set_option maxHeartbeats 4000000 in
theorem DV {W w:World} {A:aA} {I:Mem} (ta:Option Addr) (tn tc:Nat) (ca:Option Addr) (cn cc:Nat) (td:List Fm) (cl:List Cl) (ht:(rF.slice 4).rel I [.slice ta tn tc] td) (hc:(kK.slice 5).rel I [.slice ca cn cc] cl) (hT:∀f∈td,f.size≤mG) (hB:∀x∈cl,x.body.size≤mG)
 (hTO:∀f∈td,Qm f) (hCO:∀x∈cl,Eu x) (hlen:(lX td cl).length≤268435456) (hlc:(gq cl).length≤134217728) (h:Sat W w (sep (kn I) A)):
 Calls Tryz.prog 81 #[.agg #[.slice ta tn tc,.slice ca cn cc]] w fun e w'=>∃(b:Option Addr) (m d:Nat) (J:Mem),e=.returned (.tuple #[.slice b m d,.int .i64 (Es td cl)])∧Mem.le I J∧dB.rel J [.slice b m d] (jG td cl)∧Sat W w' (sep (kn J) A):=by
 have htn:=(aI ht).1;have ZM:=(aI ht).2.2;have h1:=h.alloc (.cells #[.slice ta tn tc,.slice ca cn cc] 30);obtain⟨B,hBb⟩:=ay (w.heap.size);obtain⟨w1,hw1⟩:=ay (w.alloc (.cells #[.slice ta tn tc,.slice ca cn cc] 30));rw[←hBb,←hw1] at h1;have zq:=ah (And.intro hBb hw1);have k0:w1.cell? ⟨B,0,none⟩=some (.slice ta tn tc):=by rw[h1.cell 0];rfl
 have k1:w1.cell? ⟨B,1,none⟩=some (.slice ca cn cc):=by rw[h1.cell 1];rfl
 obtain⟨X,hX⟩:=ay (sep (blk B (.cells #[.slice ta tn tc,.slice ca cn cc] 30 (0,0))) A);have HX:Hid (∀w' J Y,Sat W w' (sep Y (sep (kn J) X))→w'.cell? ⟨B,0,none⟩=some (.slice ta tn tc)∧w'.cell? ⟨B,1,none⟩=some (.slice ca cn cc)):=ah fun w' J Y h'=>by
  rw[hX] at h';have h2:=h'.drop.p1;exact⟨by rw[h2.cell 0];rfl,by rw[h2.cell 1];rfl⟩
 have HXD:Hid (∀w' J,Sat W w' (sep (kn J) X)→Sat W w' (sep (kn J) A)∧w'.cell? ⟨B,0,none⟩=some (.slice ta tn tc)∧w'.cell? ⟨B,1,none⟩=some (.slice ca cn cc)):=ah fun w' J h'=>by
  rw[hX] at h';have h2:=h'.p1;exact⟨h2.drop,by rw[h2.cell 0];rfl,by rw[h2.cell 1];rfl⟩
 have h1':Sat W w1 (sep (kn I) X):=by rw[hX];simpa only[aF,aC,aj] using h1
 obtain⟨rv,dI⟩:=ay (Es td cl);obtain⟨E,hE⟩:=ay (lX td cl);obtain⟨E0,hE0⟩:=ay (jG td cl);obtain⟨ce,hce⟩:=ay (pR cl);obtain⟨F,hF⟩:=ay (gQ cl);have uV:Hid (∀w' A',Sat W w' (sep (kn I) A')→Calls Tryz.prog 138 #[.agg #[.slice ta tn tc,.slice ca cn cc]] w' fun e w''=>∃J,e=.returned (.int .i64 rv)∧Mem.le I J∧Sat W w'' (sep (kn J) A')):=ah fun w' A' h'=>by rw[dI];exact vM ta tn tc ca cn cc td cl ht hc hT hB h'
 have Ey:Hid (∀w' A' J,Mem.le I J→Sat W w' (sep (kn J) A')→Calls Tryz.prog 84 #[.slice ca cn cc] w' fun e w''=>∃(b:Option Addr) (m d:Nat) (J2:Mem),e=.returned (.tuple #[.slice b m d,.int .i64 ce])∧Mem.le J J2∧dB.rel J2 [.slice b m d] F∧Sat W w'' (sep (kn J2) A')):=ah fun w' A' J hl h'=>by rw[hce,hF];exact tY ca cn cc cl ((kK.slice 5).mono hl hc) hB hCO hlc h'
 have GU:Hid ((rv=0→E0=E)∧(rv≠0→E0=[])):=ah ⟨fun h0=>by rw[hE0,hE];unfold jG;rw[if_pos (by rw[←dI];exact h0)],fun h0=>by rw[hE0];unfold jG;rw[if_neg (by rw[←dI];exact h0)]⟩;have hFl:F.length≤134217728:=by rw[hF];exact jc hlc
 obtain⟨V,hV⟩:∃V:Nat→List UInt8,V=fun j=>PA.encI tn++rO (td.take j):=⟨_,rfl⟩
 have hV0:V 0=PA.encI tn:=by rw[hV];simp[rO]
 have Am:∀j g,td[j]?=some g→V (j+1)=V j++encR (gu g):=fun j g hg=>by
  rw[hV];simp only;unfold rO;rw[mV (fun f=>encR (gu f)) hg];simp only[List.append_assoc]
 have YB:V tn++encR F=E:=by rw[hV,hE,hF];simp only;rw[htn,List.take_length];rfl
 have hEl:E.length≤268435456:=by rw[hE];exact hlen
 have Ak:∀j,(V j).length≤268435456:=fun j=>by
  rw[hV];simp only[dD];have:=uF (fun f=>encR (gu f)) td j;unfold lX at hlen;rw[dD,dD,←htn] at hlen;unfold rO at hlen ⊢;omega
 have afx:tn≤268435456:=by
  have key:∀l:List Fm,l.length≤(rO l).length:=by
   intro l
   induction l with
   | nil=>simp
   | cons g l ih=>
    unfold rO at ih ⊢;rw[List.map_cons,List.flatten_cons,dD,List.length_cons];have:1≤(encR (gu g)).length:=by
     unfold encR;simp only[dD];have:=uvarint_pos (gu g).length;omega
    omega
  have:=key td;unfold lX at hlen;rw[dD,dD] at hlen;omega
 have hb0:=dX (r:=(tn:Int)) (by omega) (by omega);have HVL:=ah (And.intro Ak hEl);have HV:=ah (And.intro hV0 (And.intro Am YB));have Zg:=ah (And.intro ht (And.intro hT hTO));have HN:=ah htn;have VD:=ah hFl;have H1:=ah h1';rw[←dI,←hE0];obtain⟨Po,dR⟩:∃P:Ending→World→Prop,P=fun e w'=>∃(b:Option Addr) (m d:Nat) (J:Mem),e=.returned (.tuple #[.slice b m d,.int .i64 rv])∧Mem.le I J∧dB.rel J [.slice b m d] E0∧Sat W w' (sep (kn J) A):=⟨_,rfl⟩
 rw[←dR];have bK:=ah dR;clear ht hc hT hB hTO hCO hlen hlc h h1 h1' hBb hw1 hX dI hE hE0 hce hF hFl hV hV0 Am YB hEl Ak htn dR
 by_cases hr0:rv=0
 ·subst hr0
  have HEE:=ah (GU.out.1 rfl);clear GU
  go_enter Tryz.func81,Tryz.ntmps81
  go_upto_region 1 with (fail)
  rw[←zq.out.1,←zq.out.2]
  go_wp2_with fail
  refine (uV.out _ _ H1.out).mono ?_;rintro e w2 ⟨J,rfl,hle,h2⟩;have HJ:=ah hle;have H2:=ah h2;clear h2 hle uV k0 k1 H1;obtain⟨-,k0,k1⟩:=HXD.out _ _ H2.out
  go_upto_region 4 with (fail)
  go_wp2_with fail
  refine (iH (tn:Int) (by omega) (by omega) H2.out).mono ?_;rintro e w3 ⟨a1,c1,rfl,h3⟩;obtain⟨m,hm⟩:=ay ((PA.encI tn).length);obtain⟨vs,hvs⟩:=ay ((PA.encI tn).map bv);rw[←hm,←hvs] at h3;rw[←hm];have HM:=ah (And.intro hm hvs);have H3:=ah h3;clear hm hvs h3 H2 hb0 k0 k1
  go_wp2_with fail
  go_loopw [5,6] (fun ov kv wr=>∃(k:Nat) (a':Option Addr) (n' c':Nat) (vs:List Value) (J:Mem),ov=.slice a' n' c'∧kv=.int .i64 k∧k≤tn∧Hid (n'=(V k).length∧vs=(V k).map bv∧Mem.le I J)∧Sat W wr (sep (aT 5 1 a' n' c' vs) (sep (kn J) X))) (fun _ kv _=>tn-(intOf kv).toNat)
  case atStart=>exact⟨0,a1,m,c1,vs,J,rfl,rfl,by omega,ah ⟨by rw[HM.out.1,HV.out.1],by rw[HM.out.2,HV.out.1],HJ.out⟩,H3.out⟩
  case round=>
   obtain⟨k,a',n',c',vs',J',rfl,rfl,hk,HVV,hS⟩:=hrel;clear H3;obtain⟨k0,k1⟩:=HX.out _ _ _ hS
   by_cases hlt:k<tn
   ·have hltz:(k:Int)<(tn:Int):=by omega
    obtain⟨g,hg⟩:∃g,td[k]?=some g:=⟨_,List.getElem?_eq_getElem (by have:=HN.out;omega)⟩
    have hgm:g∈td:=List.mem_of_getElem? hg;obtain⟨b,o,p,q,x1,n1,d1,x2,n2,d2,rfl,hrb,hcell⟩:=gU Zg.out.1 hg;obtain⟨j0,j1,j2,j3⟩:=hcell wr (yQ HVV.out.2.2 hS.p1.ext);obtain⟨fe,hfe⟩:=ay (jY g);obtain⟨G,hG⟩:=ay (gu g);have hcall:=tX (W:=W) (w:=wr) (A:=sep (aT 5 1 a' n' c' vs') X) (I:=J') g p q x1 n1 d1 x2 n2 d2 (rF.mono HVV.out.2.2 hrb) (Zg.out.2.1 g hgm) (Zg.out.2.2 g hgm).b64 (by have:=(Zg.out.2.2 g hgm).bl;omega) (by simpa only[aF,aC,aj] using hS);rw[←hfe,←hG] at hcall;have hGl:G.length≤16777216:=by rw[hG];exact kD (Zg.out.2.2 g hgm).bl
    obtain⟨m2,hm2⟩:=ay ((encR G).length);obtain⟨v2,hv2⟩:=ay ((encR G).map bv);have hb1:n'+m2≤268435456:=by
     have h1:=HVL.out.1 (k+1);rw[HV.out.2.1 k g hg,dD,←HVV.out.1,←hG,←hm2] at h1;exact h1
    have wW:Hid (V (k+1)=V k++encR G∧k<tn):=ah ⟨by rw[hG];exact HV.out.2.1 k g hg,hlt⟩;have rJ:=ah (And.intro hm2 hv2);have Ep:=ah hcall;have HB1:=ah (And.intro hb1 hGl);clear hg hgm hrb hcell hfe hG hcall hGl hm2 hv2 hb1 hlt hk hS
    go_upto_region 8 with (fail)
    go_wp2_with fail
    refine Ep.out.mono ?_;rintro e w4 ⟨b4,m4,d4,J2,rfl,hle2,hr2,h4⟩;have HJ2:=ah (And.intro hle2 hr2);have H4:=ah h4;clear h4 hle2 hr2 Ep k0 k1 j0 j1 j2 j3
    go_upto_region 9 with (fail)
    go_wp2_with fail
    refine (ng (.slice b4 m4 d4) G H4.out HJ2.out.2 (by have:=HB1.out;omega)).mono ?_;rintro e w5 ⟨a5,c5,rfl,h5⟩;rw[←rJ.out.1,←rJ.out.2] at h5;rw[←rJ.out.1];have jA:Hid (oL w5 a5 m2 v2):=ah (by rw[rJ.out.2,rJ.out.1] at h5 ⊢;exact jg h5);have h6:Sat W w5 (sep (aT 5 1 a' n' c' vs') (sep (kn J2) X)):=by have:=h5.drop;simpa only[aF,aC,aj] using this
    clear h5 H4
    go_wp2_with (at_builtin;(refine aH rfl (.tmp 36) (.tmp 38) 51 rfl 5 1 1 (.int .u8 0) Tryz.underlying51 eG rfl rfl h6 rfl v2 jA.out.len jA.out.nil jA.out.src jA.out.one (by have:=HB1.out;omega) (by have:=HB1.out;unfold maxLen;omega) ?_))
    intro a7 c7 w7 h9;have H9:=ah h9;clear h6 h9 jA
    go_wp2_with fail
    go_roundw
    case rel=>
     refine⟨k+1,a7,n'+m2,c7,_,J2,rfl,by go_num,by have:=wW.out.2;omega,ah ⟨?_,?_,eH HVV.out.2.2 HJ2.out.1⟩,H9.out⟩
     ·rw[wW.out.1,dD,HVV.out.1,rJ.out.1]
     ·rw[wW.out.1,lD,HVV.out.2.1,rJ.out.2]
    case measure=>simp[intOf];have:=wW.out.2;omega
   ·obtain rfl:k=tn:=by omega
    have hb1:n'+(encR F).length=E.length:=by rw[HVV.out.1,←dD,HV.out.2.2]
    have hb2:vs'++(encR F).map bv=E.map bv:=by rw[HVV.out.2.1,←lD,HV.out.2.2]
    obtain⟨m2,hm2⟩:=ay ((encR F).length);obtain⟨v2,hv2⟩:=ay ((encR F).map bv);rw[←hm2] at hb1;rw[←hv2] at hb2;have rJ:=ah (And.intro hm2 (And.intro hv2 (And.intro hb1 hb2)));have hS2:Sat W wr (sep (kn J') (sep (aT 5 1 a' n' c' vs') X)):=bT hS;have HJL:=ah HVV.out.2.2;have HS2:=ah hS2;clear hS hS2 hb1 hb2 hm2 hv2 hlt hk HVV
    go_upto_region 10 with (fail)
    go_wp2_with fail
    refine (Ey.out _ _ _ HJL.out HS2.out).mono ?_;rintro e w4 ⟨b4,m4,d4,J2,rfl,hle2,hr2,h4⟩;have HJ2:=ah (And.intro hle2 hr2);have H4:=ah h4;clear h4 hle2 hr2 Ey k0 k1 HS2
    go_upto_region 11 with (fail)
    go_wp2_with fail
    refine (ng (.slice b4 m4 d4) F H4.out HJ2.out.2 (by have:=VD.out;omega)).mono ?_;rintro e w5 ⟨a5,c5,rfl,h5⟩;rw[←rJ.out.1,←rJ.out.2.1] at h5;rw[←rJ.out.1];have jA:Hid (oL w5 a5 m2 v2):=ah (by rw[rJ.out.2.1,rJ.out.1] at h5 ⊢;exact jg h5);have h6:Sat W w5 (sep (aT 5 1 a' n' c' vs') (sep (kn J2) X)):=by have:=h5.drop;simpa only[aF,aC,aj] using this
    clear h5 H4
    go_wp2_with (at_builtin;(refine aH rfl (.tmp 46) (.tmp 48) 51 rfl 5 1 1 (.int .u8 0) Tryz.underlying51 eG rfl rfl h6 rfl v2 jA.out.len jA.out.nil jA.out.src jA.out.one (by have:=rJ.out.2.2.1;have:=HVL.out.2;omega) (by have:=rJ.out.2.2.1;have:=HVL.out.2;unfold maxLen;omega) ?_))
    intro a7 c7 w7 h9;have h10:Sat W w7 (sep (aT 5 1 a7 (n'+m2) c7 (E.map bv)) (sep (kn J2) X)):=by rw[←rJ.out.2.2.2];exact h9
    obtain⟨J3,hle3,hr3,h11⟩:=iw h10 rJ.out.2.2.1;have HF:=ah (And.intro hle3 (And.intro hr3 (HXD.out _ _ h11).1));clear h6 h9 h10 h11 hle3 hr3 jA
    go_wp2
    rw[bK.out];exact⟨a7,n'+m2,c7,J3,rfl,eH HJL.out (eH HJ2.out.1 HF.out.1),by rw[HEE.out];exact HF.out.2.1,HF.out.2.2⟩
 ·have HEE:=ah (GU.out.2 hr0)
  have hb1:(rv !=0)=true:=by simpa using hr0
  have hb2:(rv==0)=false:=by simpa using hr0
  clear GU hr0
  go_enter Tryz.func81,Tryz.ntmps81
  go_upto_region 1 with (fail)
  rw[←zq.out.1,←zq.out.2]
  go_wp2_with fail
  refine (uV.out _ _ H1.out).mono ?_;rintro e w2 ⟨J,rfl,hle,h2⟩;have HF:=ah (And.intro hle (HXD.out _ _ h2).1);clear h2 hle uV k0 k1 H1
  go_wp2
  rw[bK.out];exact⟨none,0,0,J,rfl,HF.out.1,by rw[HEE.out];exact iZ J,HF.out.2⟩
end Go.Proofs.YthfmaclnccdcbaaGreatDoor
namespace Go.Proofs.YthfmaclnccdcbaaGreatDoor
open Go.RowKit PA
theorem OE:okR ⟨1,1⟩=true:=tK 1 1 (by omega) (by omega) (by decide) (by rfl)
def WH (n d:Int):Int:=if okR ⟨n,d⟩=true then (if n<d then -1 else if d<n then 1 else 0) else 0
theorem ltR_1 (n d:Int):Ov ⟨n,d⟩ ⟨1,1⟩=decide (n<d):=by unfold Ov;simp
theorem ltR_1' (n d:Int):Ov ⟨1,1⟩ ⟨n,d⟩=decide (d<n):=by unfold Ov;simp
set_option maxHeartbeats 1000000 in
theorem LG {W w:World} {A:aA} (n d:Int) (h:Sat W w A):
 Calls Tryz.prog 164 #[.agg #[.int .i64 n,.int .i64 d],.agg #[.int .i64 1,.int .i64 1]] w fun e w'=>e=.returned (.int .i64 (Qa (okR ⟨n,d⟩)))∧Sat W w' A:=by
 have h1:=(h.alloc (.cells #[.int .i64 n,.int .i64 d] 26)).alloc (.cells #[.int .i64 1,.int .i64 1] 26);rw[World.size_alloc] at h1;obtain⟨B,hB⟩:=ay (w.heap.size);obtain⟨w1,hw1⟩:=ay ((w.alloc (.cells #[.int .i64 n,.int .i64 d] 26)).alloc (.cells #[.int .i64 1,.int .i64 1] 26));rw[←hB,←hw1] at h1;have HB:=ah (And.intro hB hw1);obtain⟨j0,j1,-,-⟩:=kG h1;obtain⟨k0,k1,-,-⟩:=kG h1.p1;have HV:=ah (mg n d h1);obtain⟨o,ho⟩:=ay (okR ⟨n,d⟩);rw[←ho] at HV ⊢;clear h h1 hB hw1 ho;cases o with
 | false=>
  go_enter Tryz.func164,Tryz.ntmps164
  go_upto_region 1 with (fail)
  simp only[←HB.out.1];rw[←HB.out.2]
  go_wp2_with fail
  refine HV.out.mono ?_;rintro e w2 ⟨rfl,h2⟩;have H2:=ah h2.drop.drop;clear h2 HV j0 j1 k0 k1;unfold Qa
  go_wp2
  go_ret
  exact⟨rfl,H2.out⟩
 | true=>
  go_enter Tryz.func164,Tryz.ntmps164
  go_upto_region 1 with (fail)
  simp only[←HB.out.1];rw[←HB.out.2]
  go_wp2_with fail
  refine HV.out.mono ?_;rintro e w2 ⟨rfl,h2⟩;obtain⟨j0,j1,-,-⟩:=kG h2;have hv2:=mg 1 1 h2;rw[OE] at hv2;have oI:=ah hv2;clear h2 HV k0 k1 hv2;unfold Qa
  go_wp2_with fail
  refine oI.out.mono ?_;rintro e w3 ⟨rfl,h3⟩;have H3:=ah h3.drop.drop;clear h3 oI j0 j1;unfold Qa
  go_wp2
  go_ret
  exact⟨rfl,H3.out⟩
set_option maxHeartbeats 1000000 in
theorem OI {W w:World} {A:aA} (n d:Int) (h:Sat W w A):
 Calls Tryz.prog 121 #[.agg #[.int .i64 n,.int .i64 d],.agg #[.int .i64 1,.int .i64 1]] w fun e w'=>∃ev:Int,e=.returned (.tuple #[.int .i64 (WH n d),.int .i64 ev])∧Sat W w' A:=by
 have h1:=(h.alloc (.cells #[.int .i64 n,.int .i64 d] 26)).alloc (.cells #[.int .i64 1,.int .i64 1] 26);rw[World.size_alloc] at h1;obtain⟨B,hB⟩:=ay (w.heap.size);obtain⟨w1,hw1⟩:=ay ((w.alloc (.cells #[.int .i64 n,.int .i64 d] 26)).alloc (.cells #[.int .i64 1,.int .i64 1] 26));rw[←hB,←hw1] at h1;have HB:=ah (And.intro hB hw1);obtain⟨j0,j1,-,-⟩:=kG h1;obtain⟨k0,k1,-,-⟩:=kG h1.p1;have HV:=ah (LG n d h1);obtain⟨o,ho⟩:=ay (okR ⟨n,d⟩);obtain⟨cv,hcv⟩:=ay (WH n d);have hcv2:cv=if o=true then (if n<d then -1 else if d<n then 1 else 0) else 0:=by rw[hcv,ho];rfl
 have RX:Hid (o=true→∀w' A',Sat W w' A'→Calls Tryz.prog 165 #[.agg #[.int .i64 n,.int .i64 d],.agg #[.int .i64 1,.int .i64 1]] w' fun e w''=>e=.returned (.bool (decide (n<d)))∧Sat W w'' A'):=ah fun e w' A' h'=>by
  rw[←ltR_1];exact qZ ⟨n,d⟩ ⟨1,1⟩ (nX (by rw[←ho];exact e)).1 (nX OE).1 h'
 have HL2:Hid (o=true→∀w' A',Sat W w' A'→Calls Tryz.prog 165 #[.agg #[.int .i64 1,.int .i64 1],.agg #[.int .i64 n,.int .i64 d]] w' fun e w''=>e=.returned (.bool (decide (d<n)))∧Sat W w'' A'):=ah fun e w' A' h'=>by
  rw[←ltR_1'];exact qZ ⟨1,1⟩ ⟨n,d⟩ (nX OE).1 (nX (by rw[←ho];exact e)).1 h'
 rw[←ho] at HV;rw[←hcv];have Qo:=ah hcv2;obtain⟨Po,dR⟩:∃P:Ending→World→Prop,P=fun e w'=>∃ev:Int,e=.returned (.tuple #[.int .i64 cv,.int .i64 ev])∧Sat W w' A:=⟨_,rfl⟩
 rw[←dR];have bK:=ah dR;clear h h1 hB hw1 ho hcv hcv2 dR;cases o with
 | false=>
  go_enter Tryz.func121,Tryz.ntmps121
  go_upto_region 1 with (fail)
  simp only[←HB.out.1];rw[←HB.out.2]
  go_wp2_with fail
  refine HV.out.mono ?_;rintro e w2 ⟨rfl,h2⟩;have H2:=ah h2.drop.drop;clear h2 HV j0 j1 k0 k1 RX HL2;unfold Qa
  go_wp2
  rw[bK.out];exact⟨1,by rw[Qo.out];rfl,H2.out⟩
 | true=>
  go_enter Tryz.func121,Tryz.ntmps121
  go_upto_region 1 with (fail)
  simp only[←HB.out.1];rw[←HB.out.2]
  go_wp2_with fail
  refine HV.out.mono ?_;rintro e w2 ⟨rfl,h2⟩;clear j0 j1 k0 k1;obtain⟨j0,j1,-,-⟩:=kG h2;obtain⟨k0,k1,-,-⟩:=kG h2.p1;have H2:=ah h2;clear h2 HV;unfold Qa
  go_wp2_with fail
  refine (RX.out (by first|rfl|trivial) _ _ H2.out).mono ?_;rintro e w3 ⟨rfl,h3⟩;clear j0 j1 k0 k1;obtain⟨j0,j1,-,-⟩:=kG h3;obtain⟨k0,k1,-,-⟩:=kG h3.p1;have H3:=ah h3;clear h3 H2 RX
  by_cases c1:n<d
  ·have HF:=ah H3.out.drop.drop
   have HC:Hid (cv=-1):=ah (by rw[Qo.out];simp[c1]);clear HL2
   go_wp2
   rw[bK.out];exact⟨0,by rw[HC.out];rfl,HF.out⟩
  ·go_wp2_with fail
   refine (HL2.out (by first|rfl|trivial) _ _ H3.out).mono ?_;rintro e w4 ⟨rfl,h4⟩;have HF:=ah h4.drop.drop;clear h4 H3 j0 j1 k0 k1
   by_cases c2:d<n
   ·have HC:Hid (cv=1):=ah (by rw[Qo.out];simp only[if_true];rw[if_neg (by omega),if_pos c2])
    go_wp2
    rw[bK.out];exact⟨0,by rw[HC.out];rfl,HF.out⟩
   ·have HC:Hid (cv=0):=ah (by rw[Qo.out];simp only[if_true];rw[if_neg (by omega),if_neg (by omega)])
    go_wp2
    rw[bK.out];exact⟨0,by rw[HC.out];rfl,HF.out⟩
theorem pF {W w:World} {A:aA} {I:Mem} (a:Option Addr) (n c:Nat) (l:List Cl) (hv:(kK.slice 5).rel I [.slice a n c] l) (hB:∀x∈l,x.body.size≤mG) (h:Sat W w (sep (kn I) A)):
 Calls Tryz.prog 120 #[.slice a n c] w fun e w'=>e=.returned (.bool (gV l))∧Sat W w' (sep (kn I) A):=by
 have hn:=(aI hv).1;have hl63:=(aI hv).2.2;have HV:=ah (kW a n c l hv hB h);obtain⟨ce,hce⟩:=ay (pR l);obtain⟨rv,dI⟩:=ay (gV l);have jm:rv=(decide (0<n)&&decide (ce=0)):=by rw[dI,hn,hce];rfl
 rw[←hce] at HV;rw[←dI];have bJ:=ah jm;have H:=ah h;clear hv hB h hn hce dI jm
 by_cases h0:0<n
 ·have h0z:(0:Int)<(n:Int):=by omega
  go_enter Tryz.func120,Tryz.ntmps120
  go_wp2_with fail
  refine HV.out.mono ?_;rintro e w2 ⟨rfl,h2⟩;have H2:=ah h2;clear h2 HV
  go_wp2
  go_ret
  exact⟨by rw[bJ.out,decide_eq_true h0];rfl,H2.out⟩
 ·have h0z:n=0:=by omega
  subst h0z
  go_enter Tryz.func120,Tryz.ntmps120
  go_wp2
  go_ret
  exact⟨by rw[bJ.out];rfl,H.out⟩
end Go.Proofs.YthfmaclnccdcbaaGreatDoor

/- Part of a proof. -/
import Derived.Test.YthfmaclnccdcbaaGreatDoorGActsHash29
import Derived.Test.YthfmaclnccdcbaaGreatDoorGActsHash40
import Derived.Test.YthfmaclnccdcbaaGreatDoorGActsHash41
namespace Go.Proofs.YthfmaclnccdcbaaGreatDoor
open Go.RowKit PA
attribute [local go_sem ↓] dw dK bC
set_option maxRecDepth 100000 in
set_option maxHeartbeats 8000000 in
theorem actsHash_walk (a0:Option Addr) (len0 cap0:Nat) (z0:List Int) (a1 a2 a3:Int) (w:World) (hW:WholeOK w)
 (w0:XZ w a0 len0 cap0 z0) (w1:(Lit.int .i64 a1).wf=true) (w2:(Lit.int .i64 a2).wf=true) (w3:(Lit.int .i64 a3).wf=true):
 Calls Tryz.prog 5 #[.slice a0 len0 cap0,.int .i64 a1,.int .i64 a2,.int .i64 a3] w fun e w'=>e=.returned (.bool true)∧Below w.heap.size w w':=by
 obtain⟨l,rfl,hr0,h64⟩:=argI w0;have abN:=D7 (.slice a0 l.length cap0) l 12 (by omega) ⟨⟨a0,cap0,rfl⟩,hr0,h64⟩ (Sat.XB w);have Kq:=ah (KO _ a1 a2 a3 (uI w1) (uI w2) (uI w3) abN);have HW:Hid (iW w):=ah hW;obtain⟨ll,hll⟩:=ay (l.length);rw[←hll] at Kq ⊢;clear hr0 h64 w0 w1 w2 w3 abN hll hW
 go_enter Tryz.func5,Tryz.ntmps5
 go_wp2_with fail
 refine Kq.out.mono ?_;rintro e w1 ⟨a,b,n,c,c2,Ls,Ms,J,rfl,hn,hm,Ui,-,hle,hsL,-,hsM,h1⟩;have hn63:(n:Int)≤12:=by omega
 have hmz:b=none→n=0:=fun e=>by have:=h1.p1.fJ;have h2:=this.2.2 e;have:=this.1;omega
 have pJ:=ah (Lc h1.p1);have HM:Hid ((dF (Ms.map (·.1))).length=n*19∧(b=none→n=0)):=ah ⟨by rw[lZ,List.length_map,←hm],hmz⟩;have H1:=ah h1;have HL:Hid (n+n=(Ls++Ms).length∧Pj J 4 (Ls++Ms)):=ah ⟨by rw[dD];omega,(hsL.mono (Mem.le_refl _) (by omega)).append hsM⟩;clear hn hm Ui hle hsL hsM h1 hmz Kq
 go_upto_region 2 with (fail)
 go_wp2_with (at_builtin;refine aH rfl _ _ 23 rfl 36 19 248 _ Tryz.underlying23 xC rfl rfl H1.out rfl (dF (Ms.map (·.1))) HM.out.1 HM.out.2 pJ.out (Jv _) (by omega) (by unfold maxLen;omega) ?_)
 intro a3' c3 w2 hS2;have hS3:Sat w w2 (sep (aT 36 19 a3' (n+n) c3 (dF ((Ls++Ms).map (·.1)))) (sep (kn J) emp)):=by
  rw[lD,jE];exact hS2.p1.drop
 obtain⟨J1,hle1,Zx,hS4⟩:=hS3.dV.learn;obtain⟨Ns,hNs⟩:=ay (Ls++Ms);obtain⟨m,hm⟩:=ay (n+n);rw[←hNs] at Zx;have HN:Hid (m=Ns.length∧iL a3' (dF (Ns.map (·.1))) J1∧Pj J1 4 Ns):=ah ⟨by rw[hm,hNs];exact HL.out.1,Zx,by rw[hNs];exact HL.out.2.mono hle1 (Nat.le_refl _)⟩;have hm63:(m:Int)≤24:=by omega
 have H4:=ah hS4;rw[←hm];clear hS2 hS3 hle1 Zx hS4 hNs hm H1 HM pJ HL hn63
 go_wp2_with fail
 go_loopw [11] (fun kv wr=>∃(i:Nat) (K:Mem),kv=.int .i64 i∧i≤m∧Hid (Mem.le J1 K)∧Sat w wr (sep (kn K) emp)) (fun kv _=>m-(intOf kv).toNat)
 case atStart=>exact⟨0,J1,rfl,by omega,ah (Mem.le_refl _),H4.out⟩
 case round=>
  obtain⟨i,K,rfl,hi,HK,hS⟩:=hrel;clear H4
  by_cases hlt:i<m
  ·have hltz:(i:Int)<(m:Int):=by omega
   obtain⟨p,hp⟩:∃p,Ns[i]?=some p:=⟨_,List.getElem?_eq_getElem (by have:=HN.out.1;omega)⟩
   obtain⟨z,x⟩:=p;obtain⟨hA,hs⟩:=HN.out.2.2 _ (List.mem_of_getElem? hp);dsimp only at hA hs;obtain⟨b0,o0,hab,hld⟩:=V8 (i:=i) (z:=z) HN.out.2.1 (by rw[List.getElem?_map,hp];rfl);have hex:∀w' K',Mem.le J1 K'→Sat w w' (sep (kn K') emp)→Sem.run Tryz.prog (jC (.pointer (some ⟨b0,o0+i*19,none⟩))) w'=.ok (.agg z.cells.toArray) w':=fun w' K' hl h'=>hld w' fun g o hg=>h'.ext g o (hl g o hg)
   have HEX:=ah hex;have HA:Hid (mM J1 z x∧V5 x∧SzA x∧uZ x∧i<m):=ah ⟨hA,hs.szM,hs.szA,hs.enc (by omega),hlt⟩;have k1:=hex wr K HK.out hS;have hha:=KP HW.out z x (HA.out.1.mono HK.out) HA.out.2.1 HA.out.2.2.2.1 hS;obtain⟨H,hH⟩:=ay (JZ x);obtain⟨rv,dI⟩:∃y:Int,y=TL x:=⟨_,rfl⟩
   obtain⟨E,hE⟩:=ay (jX x);have HV:Hid ((rv=0∧H=lJ Qz.data.toList E)∨(rv=1∧H=0)):=ah (by
    rw[dI,hH,hE];unfold TL JZ
    by_cases hv:bW x=true
    ·rw[if_pos hv,if_pos hv];exact .inl ⟨rfl,rfl⟩
    ·rw[if_neg hv,if_neg hv];exact .inr ⟨rfl,rfl⟩)
   have HR:Hid ((if bW x=true then 0 else 1)=rv∧jX x=E∧E.length≤1073741824):=ah ⟨by rw[dI];rfl,hE.symm,by rw[hE];exact JM HA.out.2.2.2.1⟩;rw[←hH,←dI] at hha;have HHA:=ah hha;subst hab;clear hp hA hs hld hex hlt hi hS hha hH dI hE
   go_upto_region 6 with (fail)
   go_wp2_with fail
   refine HHA.out.mono ?_;rintro e w3 ⟨K1,rfl,hle2,h3⟩;have k2:=HEX.out w3 K1 (eH HK.out hle2) h3;have hen:=kV HW.out z x (HA.out.1.mono (eH HK.out hle2)) HA.out.2.1 HA.out.2.2.2.1 h3;rw[HR.out.1,HR.out.2.1] at hen;have pq:=ah hen;have HK1:=ah (eH HK.out hle2);clear hle2 h3 hen k1 HHA
   go_upto_region 7 with (fail)
   go_wp2_with fail
   refine pq.out.mono ?_;rintro e w4 ⟨b1,m1,d1,K2,rfl,hle3,hr3,h4⟩;have Qq:=ah (And.intro (eH HK1.out hle3) hr3);have H5:=ah h4;clear hle3 hr3 h4 k2 pq
   go_upto_region 8 with (fail)
   go_cut [75] from 51 to 74 (fun bv wx=>bv=.bool false∧Sat w wx (sep (kn K2) emp))
   case first=>
    as_aux_lemma=>
    rcases HV.out with ⟨rfl,hh⟩|⟨rfl,hh⟩
    ·have hhb:=CU Qz (.slice b1 m1 d1) E H5.out Qq.out.2 (by decide) (by have:=HR.out.2.2;omega)
     rw[←hh] at hhb;have VF:=ah hhb;clear hh hhb HV
     go_wp2_with fail
     refine VF.out.mono ?_;rintro e w5 ⟨rfl,h5⟩;have H6:=ah h5;clear h5 VF
     go_wp2
     go_meet
     case rel=>exact⟨rfl,H6.out⟩
    ·subst hh
     clear HV
     go_wp2
     go_meet
     case rel=>exact⟨rfl,H5.out⟩
   clear H5;obtain⟨rfl,h6⟩:=hcut;have k3:=HEX.out wc K2 Qq.out.1 h6;have hen:=EM z x (HA.out.1.mono Qq.out.1) HA.out.2.2.1 HA.out.2.2.2.1 h6;rw[HR.out.1,HR.out.2.1] at hen;have pq:=ah hen;clear h6 hen
   go_wp2_with fail
   refine pq.out.mono ?_;rintro e w5 ⟨b2,m2,d2,K3,rfl,lQ,hr4,h7⟩;have HK3:=ah (And.intro (eH Qq.out.1 lQ) hr4);have H7:=ah h7;clear lQ hr4 h7 k3 pq;rcases HV.out with ⟨rfl,hh⟩|⟨rfl,hh⟩
   ·have hhb:=IK Qz (.slice b2 m2 d2) E H7.out HK3.out.2 (by decide) (by have:=HR.out.2.2;omega)
    rw[←hh] at hhb;have VF:=ah hhb;clear hh hhb HV
    go_upto_region 11 with (fail)
    go_wp2_with fail
    refine VF.out.mono ?_;rintro e w6 ⟨rfl,h8⟩;have H8:=ah h8;clear h8 VF
    go_wp2
    go_roundw
    case rel=>exact⟨i+1,K3,by go_num,by have:=HA.out.2.2.2.2;omega,ah HK3.out.1,H8.out⟩
    case measure=>simp[intOf];have:=HA.out.2.2.2.2;omega
   ·subst hh
    clear HV
    go_wp2
    go_roundw
    case rel=>exact⟨i+1,K3,by go_num,by have:=HA.out.2.2.2.2;omega,ah HK3.out.1,H7.out⟩
    case measure=>simp[intOf];have:=HA.out.2.2.2.2;omega
  ·obtain rfl:i=m:=by omega
   have HLV:=ah (Ih HW.out hS);clear hS hlt hi
   go_wp2_with fail
   refine HLV.out.mono ?_;rintro e w20 ⟨rfl,h20⟩;have HBE:=ah h20.below;clear h20 HLV
   go_wp2
   go_ret
   exact⟨rfl,HBE.out⟩
end Go.Proofs.YthfmaclnccdcbaaGreatDoor

/- Part of a proof. -/
import Derived.Test.YthfmaclnccdcbaaGreatDoorZFO12
namespace Go.Proofs.YthfmaclnccdcbaaGreatDoor
open Go.RowKit PA
set_option maxHeartbeats 4000000 in
theorem GH {W w:World} {A:aB} {I:Mem} (a:Option Addr) (n c:Nat) (l:List Cl) (hv:(lM.slice 5).rel I [.slice a n c] l) (hok:∀x∈l,FW x) (hlen:(gJ l).length≤134217728) (h:Sat W w (sep (kn I) A)):
 Calls Tryz.prog 141 #[.slice a n c] w fun e w'=>∃(b:Option Addr) (d:Nat) (J:Mem),e=.returned (.slice b (gJ l).length d)∧Mem.le I J∧bZ.rel J [.slice b (gJ l).length d] (gJ l)∧Sat W w' (sep (kn J) A):=by
 have hn:=(aJ hv).1;have hn31:n≤134217728:=by
  have key:∀l:List Cl,l.length≤(oM l).length:=by
   intro l
   induction l with
   | nil=>simp
   | cons g l ih=>
    unfold oM at ih ⊢;rw[mM,List.flatten_cons,dM,oP];have:1≤(oL g).length:=by
     unfold oL encR;simp only[dM];have:=uvarint_pos (dw g.body).length;omega
    omega
  have:=key l;unfold gJ at hlen;rw[dM] at hlen;omega
 obtain⟨E,hE⟩:=aC (gJ l);rw[←hE] at hlen ⊢;obtain⟨V,hV⟩:∃V:Nat→List UInt8,V=fun j=>PA.encI n++oM (l.take j):=⟨_,rfl⟩
 have hV0:V 0=PA.encI n:=by rw[hV];simp[oM]
 have BM:∀j g,l[j]?=some g→V (j+1)=V j++gu g.refs++encR (dw g.body):=fun j g hg=>by
  rw[hV];simp only;unfold oM;rw[nT oL hg];unfold oL;simp only[kZ]
 have hVe:V n=E:=by rw[hV,hE];simp only;rw[hn,List.take_length];rfl
 have BL:∀j,(V j).length≤134217728:=fun j=>by
  rw[hV];simp only[dM];have:=vN oL l j;rw[hE] at hlen;unfold gJ at hlen;rw[dM,←hn] at hlen;unfold oM at hlen ⊢;omega
 have HVL:=ah BL;have HV:=ah (aH hV0 (aH BM hVe));have mQ:=ah hok;have HN:=ah hn;have HR:=ah hv;have H:=ah h;obtain⟨Po,dS⟩:∃P:Ending→World→Prop,P=fun e w'=>∃(b:Option Addr) (d:Nat) (J:Mem),e=.returned (.slice b E.length d)∧Mem.le I J∧bZ.rel J [.slice b E.length d] E∧Sat W w' (sep (kn J) A):=⟨_,rfl⟩
 rw[←dS];have bK:=ah dS;have hb0:=eP (r:=(n:Int)) (by omega) (by omega);clear hv hok hlen h hn hE hV hV0 BM hVe BL dS;have n63:(n:Int)≤9223372036854775807:=by omega
 go_enter Tryz.func141,Tryz.ntmps141;go_wp2_with fail;refine (iT (n:Int) (by omega) (by omega) H.out).mono ?_;rintro e w2 ⟨a1,c1,rfl,h2⟩;obtain⟨m,hm⟩:=aC ((PA.encI n).length);obtain⟨vs,hvs⟩:=aC ((PA.encI n).map bv);rw[←hm,←hvs] at h2;rw[←hm];have HM:=ah (aH hm hvs);have H2:=ah h2;clear hm hvs h2 H hb0;go_wp2_with fail;go_loopw [3,4] (fun ov kv wr=>∃(k:Nat) (a':Option Addr) (n' c':Nat) (vs:List Value) (J:Mem),ov=.slice a' n' c'∧kv=.int .i64 k∧k≤n∧Hid (n'=(V k).length∧vs=(V k).map bv∧Mem.le I J)∧Sat W wr (sep (aT 5 1 a' n' c' vs) (sep (kn J) A))) (fun _ kv _=>n-(intOf kv).toNat)
 case atStart=>exact⟨0,a1,m,c1,vs,I,rfl,rfl,by omega,ah ⟨by rw[HM.out.1,HV.out.1],by rw[HM.out.2,HV.out.1],bW I⟩,H2.out⟩
 case round=>
  obtain⟨k,a',n',c',vs',J,rfl,rfl,hk,HVV,hS⟩:=hrel;clear H2;by_cases hlt:k<n
  ·have hltz:(k:Int)<(n:Int):=by omega
   obtain⟨g,hg⟩:∃g,l[k]?=some g:=⟨_,iM (by have:=HN.out;omega)⟩
   have hgm:g∈l:=mZ hg;obtain⟨b,o,ra,rc,p,q,x1,n1,d1,x2,n2,d2,rfl,hrr,hrb,hcell⟩:=vH HR.out hg;have hext:Ext I wr:=sD HVV.out.2.2 hS.p1.ext;obtain⟨k0,k1,k2,k3,k4⟩:=hcell wr hext;obtain⟨nr,hnr⟩:=aC (g.refs.length);have TS:=mQ.out g hgm;have hrs:=E5 (W:=W) (w:=wr) (A:=sep (aT 5 1 a' n' c' vs') (sep (kn J) A)) ra nr rc g.refs hnr TS.rn TS.r64 (fun w' B hs i r hr=>by
    obtain⟨b',o',e',hc'⟩:=l9 hrr hr;exact⟨b',o',e',hc' w' (sD HVV.out.2.2 hs.p2.ext)⟩) hS
   obtain⟨m1,hm1⟩:=aC ((gu g.refs).length);obtain⟨v1,hv1⟩:=aC ((gu g.refs).map bv);obtain⟨m2,hm2⟩:=aC ((encR (dw g.body)).length);obtain⟨v2,hv2⟩:=aC ((encR (dw g.body)).map bv);rw[←hnr] at k0;rw[←hm1,←hv1] at hrs;have hb1:n'+m1+m2≤134217728:=by
    have h1:=HVL.out (k+1);rw[HV.out.2.1 k g hg,dM,dM,←HVV.out.1,←hm1,←hm2] at h1;exact h1
   have HRS:=ah hrs;have rP:Hid (V (k+1)=V k++gu g.refs++encR (dw g.body)∧k<n):=ah ⟨HV.out.2.1 k g hg,hlt⟩;have HM1:=ah (aH hm1 hv1);have tu:=ah (aH hm2 hv2);have U5:Hid (∀w' A' J',Mem.le I J'→Sat W w' (sep (kn J') A')→Calls Tryz.prog 139 #[.agg #[.int .i64 p,.int .i64 q,.slice x1 n1 d1,.slice x2 n2 d2]] w' fun e w''=>∃(a:Option Addr) (c:Nat) (J2:Mem),e=.returned (.slice a (dw g.body).length c)∧Mem.le J' J2∧bZ.rel J2 [.slice a (dw g.body).length c] (dw g.body)∧Sat W w'' (sep (kn J2) A')):=ah fun w' A' J' hl h'=>by
    refine (wW g.body w' A' p q x1 n1 d1 x2 n2 d2 (rF.mono hl hrb) TS.b64 (by have:=TS.bl;omega) h').mono ?_;rintro e w'' ⟨a,c,rfl,h3⟩;obtain⟨J2,hle,hr',h4⟩:=iK h3 rfl;exact⟨a,c,J2,rfl,hle,hr',h4⟩
   have KT:=ah (show (dw g.body).length≤1073741824 by have:=TS.bl;omega);obtain⟨mb,hmb⟩:=aC ((dw g.body).length);rw[←hmb] at U5 KT;have HMB:=ah hmb;have HC:=ah hcell;have vk:=ah hb1;clear hg hgm hrr hrb hcell hext TS hrs hm1 hv1 hm2 hv2 hb1 hnr hlt hk hS hmb;go_upto_region 5 with fail;go_wp2_with fail;refine HRS.out.mono ?_;rintro e w3 ⟨a2,c2,rfl,h3⟩;clear HRS k0 k1 k2 k3 k4;have jK:Hid (pX w3 a2 m1 v1):=ah (by rw[HM1.out.2,HM1.out.1] at h3 ⊢;exact jC h3);have h4:=h3.drop;clear h3;go_wp2_with (at_builtin;(refine aK rfl (.tmp 14) (.tmp 20) 51 rfl 5 1 1 (.int .u8 0) Tryz.underlying51 fB rfl rfl h4 rfl v1 jK.out.len jK.out.nil jK.out.src jK.out.one (by have:=vk.out;omega) (by have:=vk.out;unfold maxLen;omega) ?_))
   intro a4 c4 w4 h5;have H5:=ah h5;obtain⟨k0,k1,k2,k3,k4⟩:=HC.out w4 (sD HVV.out.2.2 h5.p1.ext);clear h4 h5 jK;go_upto_region 6 with fail;go_wp2_with fail;refine (U5.out w4 _ J HVV.out.2.2 (show Sat W w4 (sep (kn J) (sep (aT 5 1 a4 (n'+m1) c4 (vs'++v1)) A)) from by have:=H5.out;simpa only[aA,au,aj] using this)).mono ?_;rintro e w5 ⟨a5,c5,J2,rfl,hle2,hr2,h6⟩;have HJ2:=ah (aH hle2 hr2);have H6:=ah h6;clear h6 hle2 hr2 U5 k0 k1 k2 k3 k4 H5;go_wp2_with fail;refine (og (.slice a5 mb c5) (dw g.body) H6.out HJ2.out.2 (by rw[←HMB.out];exact KT.out)).mono ?_;rintro e w6 ⟨a6,c6,rfl,h7⟩;rw[←tu.out.1,←tu.out.2] at h7;rw[←tu.out.1];have jK:Hid (pX w6 a6 m2 v2):=ah (by rw[tu.out.2,tu.out.1] at h7 ⊢;exact jC h7);have h8:Sat W w6 (sep (aT 5 1 a4 (n'+m1) c4 (vs'++v1)) (sep (kn J2) A)):=by have:=h7.drop;simpa only[aA,au,aj] using this
   clear h7 H6;go_wp2_with (at_builtin;(refine aK rfl (.tmp 22) (.tmp 29) 51 rfl 5 1 1 (.int .u8 0) Tryz.underlying51 fB rfl rfl h8 rfl v2 jK.out.len jK.out.nil jK.out.src jK.out.one (by have:=vk.out;omega) (by have:=vk.out;unfold maxLen;omega) ?_))
   intro a7 c7 w7 h9;have H9:=ah h9;clear h8 h9 jK;go_wp2_with fail;go_roundw;case rel=>
    refine⟨k+1,a7,n'+m1+m2,c7,_,J2,rfl,by go_num,by have:=rP.out.2;omega,ah ⟨?_,?_,eG HVV.out.2.2 HJ2.out.1⟩,H9.out⟩
    ·rw[rP.out.1,dM,dM,HVV.out.1,HM1.out.1,tu.out.1]
    ·rw[rP.out.1,qy,qy,HVV.out.2.1,HM1.out.2,tu.out.2,kZ]
   case measure=>simp[intOf];have:=rP.out.2;omega
  ·obtain rfl:k=n:=by omega
   have HF:Hid (n'=E.length∧vs'=E.map bv∧Mem.le I J):=ah (by rw[←HV.out.2.2];exact HVV.out);have h5:Sat W wr (sep (aT 5 1 a' n' c' (E.map bv)) (sep (kn J) A)):=by rw[←HF.out.2.1];exact hS
   obtain⟨J2,hle2,hr2,h6⟩:=iK h5 HF.out.1;have HS:=ah (aH hle2 (aH hr2 h6));clear hS HVV h5 hle2 hr2 h6 hlt hk;go_wp2;rw[bK.out];exact⟨a',c',J2,by rw[←HF.out.1];try rfl,eG HF.out.2.2 HS.out.1,by rw[←HF.out.1];exact HS.out.2.1,HS.out.2.2⟩
set_option maxHeartbeats 2000000 in
theorem uX {W w:World} {A:aB} {I:Mem} (a:Option Addr) (n c:Nat) (l:List Cl) (hv:(lM.slice 5).rel I [.slice a n c] l) (hB:∀x∈l,x.body.size≤nN) (hok:∀x∈l,FW x) (hlen:(gJ l).length≤134217728) (h:Sat W w (sep (kn I) A)):
 Calls Tryz.prog 84 #[.slice a n c] w fun e w'=>∃(b:Option Addr) (m d:Nat) (J:Mem),e=.returned (.tuple #[.slice b m d,.int .i64 (qQ l)])∧Mem.le I J∧bZ.rel J [.slice b m d] (gX l)∧Sat W w' (sep (kn J) A):=by
 have H1:=ah h;obtain⟨rv,dQ⟩:=aC (qQ l);obtain⟨E,hE⟩:=aC (gX l);have wF:Hid (∀w' A',Sat W w' (sep (kn I) A')→Calls Tryz.prog 140 #[.slice a n c] w' fun e w''=>e=.returned (.int .i64 rv)∧Sat W w'' (sep (kn I) A')):=ah fun w' A' h'=>by rw[dQ];exact lV a n c l hv hB h'
 have U5:Hid (rv=0→∀w' A',Sat W w' (sep (kn I) A')→Calls Tryz.prog 141 #[.slice a n c] w' fun e w''=>∃(a:Option Addr) (n c:Nat) (J:Mem),e=.returned (.slice a n c)∧Mem.le I J∧bZ.rel J [.slice a n c] E∧Sat W w'' (sep (kn J) A')):=ah fun h0 w' A' h'=>by
  refine (GH a n c l hv hok hlen h').mono ?_;rintro e w'' ⟨b,d,J,rfl,hle,hr',h4⟩;refine⟨b,_,d,J,rfl,hle,?_,h4⟩;rw[hE];unfold gX;rw[if_pos (by rw[←dQ];exact h0)];exact hr'
 have kY:Hid (rv≠0→E=[]):=ah fun h0=>by rw[hE];unfold gX;rw[if_neg (by rw[←dQ];exact h0)]
 rw[←dQ,←hE];obtain⟨Po,dS⟩:∃P:Ending→World→Prop,P=fun e w'=>∃(b:Option Addr) (m d:Nat) (J:Mem),e=.returned (.tuple #[.slice b m d,.int .i64 rv])∧Mem.le I J∧bZ.rel J [.slice b m d] E∧Sat W w' (sep (kn J) A):=⟨_,rfl⟩
 rw[←dS];have bK:=ah dS;clear hv hB hok hlen h dQ hE dS;by_cases hb0:rv=0
 ·subst hb0
  have Dj:=ah (U5.out rfl);clear U5 kY;go_enter Tryz.func84,Tryz.ntmps84;go_wp2_with fail;refine (wF.out _ _ H1.out).mono ?_;rintro e w2 ⟨rfl,h2⟩;have H2:=ah h2;clear h2 wF;go_wp2_with fail;refine (Dj.out _ _ H2.out).mono ?_;rintro e w3 ⟨a,n,c,J,rfl,hle,hr,h3⟩;have HF:=ah (aH hle (aH hr h3));clear h3 hle hr Dj;go_wp2;rw[bK.out];exact⟨a,n,c,J,rfl,HF.out.1,HF.out.2.1,HF.out.2.2⟩
 ·have IW:=ah (kY.out hb0)
  have hb1:(rv !=0)=true:=by simpa using hb0
  have hb2:(rv==0)=false:=by simpa using hb0
  clear U5 kY hb0;go_enter Tryz.func84,Tryz.ntmps84;go_wp2_with fail;refine (wF.out _ _ H1.out).mono ?_;rintro e w2 ⟨rfl,h2⟩;have HF:=ah h2;clear h2 wF;go_wp2;rw[bK.out];exact⟨none,0,0,I,rfl,bW I,by rw[IW.out];exact jq I,HF.out⟩
end Go.Proofs.YthfmaclnccdcbaaGreatDoor

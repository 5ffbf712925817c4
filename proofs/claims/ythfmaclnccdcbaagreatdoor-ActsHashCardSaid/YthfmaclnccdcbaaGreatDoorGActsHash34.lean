/- Part of a proof. -/
import Derived.Test.YthfmaclnccdcbaaGreatDoorGActsHash12
namespace Go.Proofs.YthfmaclnccdcbaaGreatDoor
open Go.RowKit PA
set_option maxHeartbeats 4000000 in
theorem E5 {W w:World} {A:aA} {I:Mem} (a:Option Addr) (n c:Nat) (l:List Cl) (hv:(kK.slice 5).rel I [.slice a n c] l) (hok:∀x∈l,Eu x) (hlen:(gq l).length≤134217728) (h:Sat W w (sep (kn I) A)):
 Calls Tryz.prog 141 #[.slice a n c] w fun e w'=>∃(b:Option Addr) (d:Nat) (J:Mem),e=.returned (.slice b (gq l).length d)∧Mem.le I J∧dB.rel J [.slice b (gq l).length d] (gq l)∧Sat W w' (sep (kn J) A):=by
 have hn:=(aI hv).1;have hn31:n≤134217728:=by
  have key:∀l:List Cl,l.length≤(nP l).length:=by
   intro l
   induction l with
   | nil=>simp
   | cons g l ih=>
    unfold nP at ih ⊢;rw[List.map_cons,List.flatten_cons,dD,List.length_cons];have:1≤(nO g).length:=by
     unfold nO encR;simp only[dD];have:=uvarint_pos (bV g.body).length;omega
    omega
  have:=key l;unfold gq at hlen;rw[dD] at hlen;omega
 obtain⟨E,hE⟩:=ay (gq l);rw[←hE] at hlen ⊢;obtain⟨V,hV⟩:∃V:Nat→List UInt8,V=fun j=>PA.encI n++nP (l.take j):=⟨_,rfl⟩
 have hV0:V 0=PA.encI n:=by rw[hV];simp[nP]
 have Am:∀j g,l[j]?=some g→V (j+1)=V j++fU g.refs++encR (bV g.body):=fun j g hg=>by
  rw[hV];simp only;unfold nP;rw[mV nO hg];unfold nO;simp only[List.append_assoc]
 have YB:V n=E:=by rw[hV,hE];simp only;rw[hn,List.take_length];rfl
 have Ak:∀j,(V j).length≤134217728:=fun j=>by
  rw[hV];simp only[dD];have:=uF nO l j;rw[hE] at hlen;unfold gq at hlen;rw[dD,←hn] at hlen;unfold nP at hlen ⊢;omega
 have HVL:=ah Ak;have HV:=ah (And.intro hV0 (And.intro Am YB));have mJ:=ah hok;have HN:=ah hn;have HR:=ah hv;have H:=ah h;obtain⟨Po,dR⟩:∃P:Ending→World→Prop,P=fun e w'=>∃(b:Option Addr) (d:Nat) (J:Mem),e=.returned (.slice b E.length d)∧Mem.le I J∧dB.rel J [.slice b E.length d] E∧Sat W w' (sep (kn J) A):=⟨_,rfl⟩
 rw[←dR];have bK:=ah dR;have hb0:=dX (r:=(n:Int)) (by omega) (by omega);clear hv hok hlen h hn hE hV hV0 Am YB Ak dR;have n63:(n:Int)≤9223372036854775807:=by omega
 go_enter Tryz.func141,Tryz.ntmps141
 go_wp2_with fail
 refine (iH (n:Int) (by omega) (by omega) H.out).mono ?_;rintro e w2 ⟨a1,c1,rfl,h2⟩;obtain⟨m,hm⟩:=ay ((PA.encI n).length);obtain⟨vs,hvs⟩:=ay ((PA.encI n).map bv);rw[←hm,←hvs] at h2;rw[←hm];have HM:=ah (And.intro hm hvs);have H2:=ah h2;clear hm hvs h2 H hb0
 go_wp2_with fail
 go_loopw [3,4] (fun ov kv wr=>∃(k:Nat) (a':Option Addr) (n' c':Nat) (vs:List Value) (J:Mem),ov=.slice a' n' c'∧kv=.int .i64 k∧k≤n∧Hid (n'=(V k).length∧vs=(V k).map bv∧Mem.le I J)∧Sat W wr (sep (aT 5 1 a' n' c' vs) (sep (kn J) A))) (fun _ kv _=>n-(intOf kv).toNat)
 case atStart=>exact⟨0,a1,m,c1,vs,I,rfl,rfl,by omega,ah ⟨by rw[HM.out.1,HV.out.1],by rw[HM.out.2,HV.out.1],Mem.le_refl I⟩,H2.out⟩
 case round=>
  obtain⟨k,a',n',c',vs',J,rfl,rfl,hk,HVV,hS⟩:=hrel;clear H2
  by_cases hlt:k<n
  ·have hltz:(k:Int)<(n:Int):=by omega
   obtain⟨g,hg⟩:∃g,l[k]?=some g:=⟨_,List.getElem?_eq_getElem (by have:=HN.out;omega)⟩
   have hgm:g∈l:=List.mem_of_getElem? hg;obtain⟨b,o,ra,rc,p,q,x1,n1,d1,x2,n2,d2,rfl,hrr,hrb,hcell⟩:=uo HR.out hg;have hext:Ext I wr:=yQ HVV.out.2.2 hS.p1.ext;obtain⟨k0,k1,k2,k3,k4⟩:=hcell wr hext;obtain⟨nr,hnr⟩:=ay (g.refs.length);have QU:=mJ.out g hgm;have hrs:=DZ (W:=W) (w:=wr) (A:=sep (aT 5 1 a' n' c' vs') (sep (kn J) A)) ra nr rc g.refs hnr QU.rn QU.r64 (fun w' B hs i r hr=>by
    obtain⟨b',o',e',hc'⟩:=nT hrr hr;exact⟨b',o',e',hc' w' (yQ HVV.out.2.2 hs.p2.ext)⟩) hS
   obtain⟨m1,hm1⟩:=ay ((fU g.refs).length);obtain⟨v1,hv1⟩:=ay ((fU g.refs).map bv);obtain⟨m2,hm2⟩:=ay ((encR (bV g.body)).length);obtain⟨v2,hv2⟩:=ay ((encR (bV g.body)).map bv);rw[←hnr] at k0;rw[←hm1,←hv1] at hrs;have hb1:n'+m1+m2≤134217728:=by
    have h1:=HVL.out (k+1);rw[HV.out.2.1 k g hg,dD,dD,←HVV.out.1,←hm1,←hm2] at h1;exact h1
   have HRS:=ah hrs;have wW:Hid (V (k+1)=V k++fU g.refs++encR (bV g.body)∧k<n):=ah ⟨HV.out.2.1 k g hg,hlt⟩;have Y7:=ah (And.intro hm1 hv1);have rJ:=ah (And.intro hm2 hv2);have SH:Hid (∀w' A' J',Mem.le I J'→Sat W w' (sep (kn J') A')→Calls Tryz.prog 139 #[.agg #[.int .i64 p,.int .i64 q,.slice x1 n1 d1,.slice x2 n2 d2]] w' fun e w''=>∃(a:Option Addr) (c:Nat) (J2:Mem),e=.returned (.slice a (bV g.body).length c)∧Mem.le J' J2∧dB.rel J2 [.slice a (bV g.body).length c] (bV g.body)∧Sat W w'' (sep (kn J2) A')):=ah fun w' A' J' hl h'=>by
    refine (vJ g.body w' A' p q x1 n1 d1 x2 n2 d2 (rF.mono hl hrb) QU.b64 (by have:=QU.bl;omega) h').mono ?_;rintro e w'' ⟨a,c,rfl,h3⟩;obtain⟨J2,hle,hr',h4⟩:=iw h3 rfl;exact⟨a,c,J2,rfl,hle,hr',h4⟩
   have VD:=ah (show (bV g.body).length≤1073741824 by have:=QU.bl;omega);obtain⟨mb,hmb⟩:=ay ((bV g.body).length);rw[←hmb] at SH VD;have RY:=ah hmb;have HC:=ah hcell;have zq:=ah hb1;clear hg hgm hrr hrb hcell hext QU hrs hm1 hv1 hm2 hv2 hb1 hnr hlt hk hS hmb
   go_upto_region 5 with (fail)
   go_wp2_with fail
   refine HRS.out.mono ?_;rintro e w3 ⟨a2,c2,rfl,h3⟩;clear HRS k0 k1 k2 k3 k4;have jA:Hid (oL w3 a2 m1 v1):=ah (by rw[Y7.out.2,Y7.out.1] at h3 ⊢;exact jg h3);have h4:=h3.drop;clear h3
   go_wp2_with (at_builtin;(refine aH rfl (.tmp 14) (.tmp 20) 51 rfl 5 1 1 (.int .u8 0) Tryz.underlying51 eG rfl rfl h4 rfl v1 jA.out.len jA.out.nil jA.out.src jA.out.one (by have:=zq.out;omega) (by have:=zq.out;unfold maxLen;omega) ?_))
   intro a4 c4 w4 h5;have H5:=ah h5;obtain⟨k0,k1,k2,k3,k4⟩:=HC.out w4 (yQ HVV.out.2.2 h5.p1.ext);clear h4 h5 jA
   go_upto_region 6 with (fail)
   go_wp2_with fail
   refine (SH.out w4 _ J HVV.out.2.2 (show Sat W w4 (sep (kn J) (sep (aT 5 1 a4 (n'+m1) c4 (vs'++v1)) A)) from by have:=H5.out;simpa only[aF,aC,aj] using this)).mono ?_;rintro e w5 ⟨a5,c5,J2,rfl,hle2,hr2,h6⟩;have HJ2:=ah (And.intro hle2 hr2);have H6:=ah h6;clear h6 hle2 hr2 SH k0 k1 k2 k3 k4 H5
   go_wp2_with fail
   refine (ng (.slice a5 mb c5) (bV g.body) H6.out HJ2.out.2 (by rw[←RY.out];exact VD.out)).mono ?_;rintro e w6 ⟨a6,c6,rfl,h7⟩;rw[←rJ.out.1,←rJ.out.2] at h7;rw[←rJ.out.1];have jA:Hid (oL w6 a6 m2 v2):=ah (by rw[rJ.out.2,rJ.out.1] at h7 ⊢;exact jg h7);have h8:Sat W w6 (sep (aT 5 1 a4 (n'+m1) c4 (vs'++v1)) (sep (kn J2) A)):=by have:=h7.drop;simpa only[aF,aC,aj] using this
   clear h7 H6
   go_wp2_with (at_builtin;(refine aH rfl (.tmp 22) (.tmp 29) 51 rfl 5 1 1 (.int .u8 0) Tryz.underlying51 eG rfl rfl h8 rfl v2 jA.out.len jA.out.nil jA.out.src jA.out.one (by have:=zq.out;omega) (by have:=zq.out;unfold maxLen;omega) ?_))
   intro a7 c7 w7 h9;have H9:=ah h9;clear h8 h9 jA
   go_wp2_with fail
   go_roundw
   case rel=>
    refine⟨k+1,a7,n'+m1+m2,c7,_,J2,rfl,by go_num,by have:=wW.out.2;omega,ah ⟨?_,?_,eH HVV.out.2.2 HJ2.out.1⟩,H9.out⟩
    ·rw[wW.out.1,dD,dD,HVV.out.1,Y7.out.1,rJ.out.1]
    ·rw[wW.out.1,lD,lD,HVV.out.2.1,Y7.out.2,rJ.out.2,List.append_assoc]
   case measure=>simp[intOf];have:=wW.out.2;omega
  ·obtain rfl:k=n:=by omega
   have HF:Hid (n'=E.length∧vs'=E.map bv∧Mem.le I J):=ah (by rw[←HV.out.2.2];exact HVV.out);have h5:Sat W wr (sep (aT 5 1 a' n' c' (E.map bv)) (sep (kn J) A)):=by rw[←HF.out.2.1];exact hS
   obtain⟨J2,hle2,hr2,h6⟩:=iw h5 HF.out.1;have HS:=ah (And.intro hle2 (And.intro hr2 h6));clear hS HVV h5 hle2 hr2 h6 hlt hk
   go_wp2
   rw[bK.out];exact⟨a',c',J2,by rw[←HF.out.1];try rfl,eH HF.out.2.2 HS.out.1,by rw[←HF.out.1];exact HS.out.2.1,HS.out.2.2⟩
set_option maxHeartbeats 2000000 in
theorem tY {W w:World} {A:aA} {I:Mem} (a:Option Addr) (n c:Nat) (l:List Cl) (hv:(kK.slice 5).rel I [.slice a n c] l) (hB:∀x∈l,x.body.size≤mG) (hok:∀x∈l,Eu x) (hlen:(gq l).length≤134217728) (h:Sat W w (sep (kn I) A)):
 Calls Tryz.prog 84 #[.slice a n c] w fun e w'=>∃(b:Option Addr) (m d:Nat) (J:Mem),e=.returned (.tuple #[.slice b m d,.int .i64 (pR l)])∧Mem.le I J∧dB.rel J [.slice b m d] (gQ l)∧Sat W w' (sep (kn J) A):=by
 have H1:=ah h;obtain⟨rv,dI⟩:=ay (pR l);obtain⟨E,hE⟩:=ay (gQ l);have uV:Hid (∀w' A',Sat W w' (sep (kn I) A')→Calls Tryz.prog 140 #[.slice a n c] w' fun e w''=>e=.returned (.int .i64 rv)∧Sat W w'' (sep (kn I) A')):=ah fun w' A' h'=>by rw[dI];exact kW a n c l hv hB h'
 have SH:Hid (rv=0→∀w' A',Sat W w' (sep (kn I) A')→Calls Tryz.prog 141 #[.slice a n c] w' fun e w''=>∃(a:Option Addr) (n c:Nat) (J:Mem),e=.returned (.slice a n c)∧Mem.le I J∧dB.rel J [.slice a n c] E∧Sat W w'' (sep (kn J) A')):=ah fun h0 w' A' h'=>by
  refine (E5 a n c l hv hok hlen h').mono ?_;rintro e w'' ⟨b,d,J,rfl,hle,hr',h4⟩;refine⟨b,_,d,J,rfl,hle,?_,h4⟩;rw[hE];unfold gQ;rw[if_pos (by rw[←dI];exact h0)];exact hr'
 have pq:Hid (rv≠0→E=[]):=ah fun h0=>by rw[hE];unfold gQ;rw[if_neg (by rw[←dI];exact h0)]
 rw[←dI,←hE];obtain⟨Po,dR⟩:∃P:Ending→World→Prop,P=fun e w'=>∃(b:Option Addr) (m d:Nat) (J:Mem),e=.returned (.tuple #[.slice b m d,.int .i64 rv])∧Mem.le I J∧dB.rel J [.slice b m d] E∧Sat W w' (sep (kn J) A):=⟨_,rfl⟩
 rw[←dR];have bK:=ah dR;clear hv hB hok hlen h dI hE dR
 by_cases hb0:rv=0
 ·subst hb0
  have Ag:=ah (SH.out rfl);clear SH pq
  go_enter Tryz.func84,Tryz.ntmps84
  go_wp2_with fail
  refine (uV.out _ _ H1.out).mono ?_;rintro e w2 ⟨rfl,h2⟩;have H2:=ah h2;clear h2 uV
  go_wp2_with fail
  refine (Ag.out _ _ H2.out).mono ?_;rintro e w3 ⟨a,n,c,J,rfl,hle,hr,h3⟩;have HF:=ah (And.intro hle (And.intro hr h3));clear h3 hle hr Ag
  go_wp2
  rw[bK.out];exact⟨a,n,c,J,rfl,HF.out.1,HF.out.2.1,HF.out.2.2⟩
 ·have GU:=ah (pq.out hb0)
  have hb1:(rv !=0)=true:=by simpa using hb0
  have hb2:(rv==0)=false:=by simpa using hb0
  clear SH pq hb0
  go_enter Tryz.func84,Tryz.ntmps84
  go_wp2_with fail
  refine (uV.out _ _ H1.out).mono ?_;rintro e w2 ⟨rfl,h2⟩;have HF:=ah h2;clear h2 uV
  go_wp2
  rw[bK.out];exact⟨none,0,0,I,rfl,Mem.le_refl I,by rw[GU.out];exact iZ I,HF.out⟩
end Go.Proofs.YthfmaclnccdcbaaGreatDoor
namespace PA
open Go Go.RowKit
def xJ:List (Int×Int)→Int
 | []=>0
 | p::l=>if p.1<p.2 then -1 else if p.2<p.1 then 1 else xJ l
def zn (X Y:List UInt8):List (Int×Int):=List.zipWith (fun u v=>(((u.toNat:Nat):Int),((v.toNat:Nat):Int))) X Y
def keysB (d1 n1 d2 n2:Int) (X Y:List UInt8):List (Int×Int):=[(d1,d2),(n1,n2)]++zn X Y++[((X.length:Int),(Y.length:Int))]
def NC (x y:Pa):Int:=xJ (keysB x.d x.n y.d y.n (jX x) (jX y))
theorem FB {I:Mem} {a:Option Addr} {n c:Nat} {l:List UInt8} (h:dB.rel I [.slice a n c] l):n=l.length∧(n:Int)≤9223372036854775807∧∀i u,l[i]?=some u→∃b o,a=some ⟨b,o,none⟩∧∀w',Ext I w'→w'.cell? ⟨b,o+i,none⟩=some (bv u):=by
 obtain⟨a',c',e,hsw,hc⟩:=jJ.1 h;simp only[Value.slice.injEq] at e;obtain⟨rfl,rfl,rfl⟩:=e;refine⟨rfl,by have h1:=hsw.1;have h2:=hsw.2.1;unfold maxLen at h2;omega,fun i u hu=>?_⟩;obtain⟨b,o,e,hx⟩:=jk hc (fun e=>by rw[List.map_eq_nil_iff] at e;rw[e] at hu;simp at hu);exact⟨b,o,e,fun w' he=>hx w' he i _ (by rw[List.getElem?_map,hu];rfl)⟩
end PA
namespace PA
open Go Go.RowKit
def ET:List Int→List Int→Int
 | [],[]=>0
 | [],_::_=>-1
 | _::_,[]=>1
 | a::x,b::y=>if a<b then -1 else if b<a then 1 else ET x y
theorem FU:∀x:List Int,ET x x=0
 | []=>rfl
 | a::x=>by simp[ET,FU x]
def keyL (x:Pa):List Int:=x.d::x.n::(jX x).map fun u=>((u.toNat:Nat):Int)
theorem FW:∀(x y:List UInt8) (k:Int),xJ (zn x y++[((x.length:Int)+k,(y.length:Int)+k)])=ET (x.map fun u=>((u.toNat:Nat):Int)) (y.map fun u=>((u.toNat:Nat):Int))
 | [],[],k=>by simp[zn,xJ,ET]
 | [],b::y,k=>by
  have h:(0:Int)+k<((y.length+1:Nat):Int)+k:=by omega
  simp only[zn,List.zipWith,List.nil_append,xJ,ET,List.length_nil,List.length_cons,List.map_nil,List.map_cons];rw[if_pos (by simpa using h)]
 | a::x,[],k=>by
  have h:(0:Int)+k<((x.length+1:Nat):Int)+k:=by omega
  simp only[zn,List.zipWith,List.nil_append,xJ,ET,List.length_nil,List.length_cons,List.map_nil,List.map_cons];rw[if_neg (by simp only[Int.natCast_zero];omega),if_pos (by simpa using h)]
 | a::x,b::y,k=>by
  have ih:=FW x y (k+1);have e1:((x.length:Int)+(k+1))=((a::x).length:Int)+k:=by rw[List.length_cons];push_cast;omega
  have e2:((y.length:Int)+(k+1))=((b::y).length:Int)+k:=by rw[List.length_cons];push_cast;omega
  rw[e1,e2] at ih;have ez:zn (a::x) (b::y)=(((a.toNat:Nat):Int),((b.toNat:Nat):Int))::zn x y:=rfl;rw[ez,List.cons_append,xJ,ih];simp only[List.map_cons,ET]
theorem QJ (x y:Pa):NC x y=ET (keyL x) (keyL y):=by
 have h:=FW (jX x) (jX y) 0;simp only[Int.add_zero] at h;unfold NC keysB keyL;rw[List.append_assoc];simp only[List.cons_append,List.nil_append,xJ,ET,h]
theorem QK (x:Pa):NC x x=0:=by rw[QJ];exact FU _
end PA

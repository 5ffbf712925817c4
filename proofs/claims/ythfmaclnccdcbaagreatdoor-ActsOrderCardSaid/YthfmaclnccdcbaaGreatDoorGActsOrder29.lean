/- Part of a proof. -/
import Derived.Test.YthfmaclnccdcbaaGreatDoorGActsOrder15
namespace PA
open Go Go.RowKit
def kF:List Int→List Int→Int
 | [],[]=>0
 | [],_::_=>-1
 | _::_,[]=>1
 | a::x,b::y=>if a<b then -1 else if b<a then 1 else kF x y
theorem FX:∀x y:List Int,kF y x=-kF x y
 | [],[]=>rfl
 | [],_::_=>rfl
 | _::_,[]=>rfl
 | a::x,b::y=>by
  simp only[kF];rw[FX x y]
  by_cases h1:a<b
  ·rw[if_neg (by omega),if_pos h1,if_pos h1];rfl
  ·by_cases h2:b<a
   ·rw[if_pos h2,if_neg h1,if_pos h2]
   ·rw[if_neg h2,if_neg h1,if_neg h1,if_neg h2]
theorem Dl:∀x y z:List Int,kF x y≤0→kF y z≤0→kF x z≤0
 | [],_,[],_,_=>by simp[kF]
 | [],_,_::_,_,_=>by simp[kF]
 | _::_,[],_,h,_=>by simp[kF] at h
 | _::_,_::_,[],_,h=>by simp[kF] at h
 | a::x,b::y,c::z,h,k=>by
  simp only[kF] at h k ⊢
  by_cases h1:a<b
  ·by_cases k1:b<c
   ·rw[if_pos (by omega)];omega
   ·rw[if_neg k1] at k
    by_cases k2:c<b
    ·rw[if_pos k2] at k;omega
    ·rw[if_pos (by omega)];omega
  ·rw[if_neg h1] at h
   by_cases h2:b<a
   ·rw[if_pos h2] at h;omega
   ·rw[if_neg h2] at h
    by_cases k1:b<c
    ·rw[if_pos (by omega)];omega
    ·rw[if_neg k1] at k
     by_cases k2:c<b
     ·rw[if_pos k2] at k;omega
     ·rw[if_neg k2] at k
      rw[if_neg (by omega),if_neg (by omega)];exact Dl x y z h k
theorem PN:∀x y:List Int,kF x y=0→x=y
 | [],[],_=>rfl
 | [],_::_,h=>by simp[kF] at h
 | _::_,[],h=>by simp[kF] at h
 | a::x,b::y,h=>by
  simp only[kF] at h
  by_cases h1:a<b
  ·rw[if_pos h1] at h;simp at h
  ·rw[if_neg h1] at h
   by_cases h2:b<a
   ·rw[if_pos h2] at h;simp at h
   ·rw[if_neg h2] at h
    rw[PN x y h,show a=b by omega]
theorem yY:∀x:List Int,kF x x=0
 | []=>rfl
 | a::x=>by simp[kF,yY x]
theorem FY:∀x y:List Int,kF x y=-1∨kF x y=0∨kF x y=1
 | [],[]=>.inr (.inl rfl)
 | [],_::_=>.inl rfl
 | _::_,[]=>.inr (.inr rfl)
 | a::x,b::y=>by
  simp only[kF];split
  ·exact .inl rfl
  ·split
   ·exact .inr (.inr rfl)
   ·exact FY x y
def NZ (x:Pa):List Int:=x.d::x.n::(gZ x).map fun u=>((u.toNat:Nat):Int)
theorem FZ:∀(x y:List UInt8) (k:Int),qR (oC x y++[((x.length:Int)+k,(y.length:Int)+k)])=kF (x.map fun u=>((u.toNat:Nat):Int)) (y.map fun u=>((u.toNat:Nat):Int))
 | [],[],k=>by simp[oC,qR,kF]
 | [],b::y,k=>by
  have h:(0:Int)+k<((y.length+1:Nat):Int)+k:=by omega
  simp only[oC,List.zipWith,List.nil_append,qR,kF,List.length_nil,List.length_cons,List.map_nil,List.map_cons];rw[if_pos (by simpa using h)]
 | a::x,[],k=>by
  have h:(0:Int)+k<((x.length+1:Nat):Int)+k:=by omega
  simp only[oC,List.zipWith,List.nil_append,qR,kF,List.length_nil,List.length_cons,List.map_nil,List.map_cons];rw[if_neg (by simp only[Int.natCast_zero];omega),if_pos (by simpa using h)]
 | a::x,b::y,k=>by
  have ih:=FZ x y (k+1);have e1:((x.length:Int)+(k+1))=((a::x).length:Int)+k:=by rw[List.length_cons];push_cast;omega
  have e2:((y.length:Int)+(k+1))=((b::y).length:Int)+k:=by rw[List.length_cons];push_cast;omega
  rw[e1,e2] at ih;have ez:oC (a::x) (b::y)=(((a.toNat:Nat):Int),((b.toNat:Nat):Int))::oC x y:=rfl;rw[ez,List.cons_append,qR,ih];simp only[List.map_cons,kF]
theorem mG (x y:Pa):o9 x y=kF (NZ x) (NZ y):=by
 have h:=FZ (gZ x) (gZ y) 0;simp only[Int.add_zero] at h;unfold o9 keysB NZ;rw[List.append_assoc];simp only[List.cons_append,List.nil_append,qR,kF,h]
theorem BP:Total o9:=⟨fun x y z=>by simp only[mG];exact Dl _ _ _,fun x y=>by simp only[mG];exact FX _ _⟩
theorem QF (x y:Pa):o9 x y=-1∨o9 x y=0∨o9 x y=1:=by rw[mG];exact FY _ _
theorem QE (x:Pa):o9 x x=0:=by rw[mG];exact yY _
theorem QG {x y:Pa} (h:o9 x y=0):x.d=y.d∧x.n=y.n∧gZ x=gZ y:=by
 rw[mG] at h;have h:=PN _ _ h;unfold NZ at h;simp only[List.cons.injEq] at h;refine⟨h.1,h.2.1,?_⟩;have hinj:Function.Injective fun u:UInt8=>((u.toNat:Nat):Int):=fun a b hab=>by
  have:a.toNat=b.toNat:=by exact Int.ofNat.inj hab
  exact UInt8.toNat_inj.1 this
 exact (List.map_inj_right (fun a b hab=>hinj hab)).1 h.2.2
end PA
namespace Go.Proofs.YthfmaclnccdcbaaGreatDoor
open Go.RowKit PA
set_option maxHeartbeats 4000000 in
theorem Fa {W w:World} {A:aC} {I:Mem} (a:Option Addr) (n c:Nat) (l:List Cl) (hv:(kM.slice 5).rel I [.slice a n c] l) (hok:∀x∈l,EG x) (hlen:(fZ l).length≤134217728) (h:Sat W w (sep (kn I) A)):
 Calls Tryz.prog 141 #[.slice a n c] w fun e w'=>∃(b:Option Addr) (d:Nat) (J:Mem),e=.returned (.slice b (fZ l).length d)∧Mem.le I J∧bT.rel J [.slice b (fZ l).length d] (fZ l)∧Sat W w' (sep (kn J) A):=by
 have hn:=(aI hv).1;have hn31:n≤134217728:=by
  have key:∀l:List Cl,l.length≤(nM l).length:=by
   intro l
   induction l with
   | nil=>simp
   | cons g l ih=>
    unfold nM at ih ⊢;rw[List.map_cons,List.flatten_cons,dF,List.length_cons];have:1≤(nK g).length:=by
     unfold nK encR;simp only[dF];have:=uvarint_pos (bZ g.body).length;omega
    omega
  have:=key l;unfold fZ at hlen;rw[dF] at hlen;omega
 obtain⟨E,hE⟩:=aB (fZ l);rw[←hE] at hlen ⊢;obtain⟨V,hV⟩:∃V:Nat→List UInt8,V=fun j=>PA.encI n++nM (l.take j):=⟨_,rfl⟩
 have hV0:V 0=PA.encI n:=by rw[hV];simp[nM]
 have Ai:∀j g,l[j]?=some g→V (j+1)=V j++fO g.refs++encR (bZ g.body):=fun j g hg=>by
  rw[hV];simp only;unfold nM;rw[mM nK hg];unfold nK;simp only[List.append_assoc]
 have Yy:V n=E:=by rw[hV,hE];simp only;rw[hn,List.take_length];rfl
 have Ah:∀j,(V j).length≤134217728:=fun j=>by
  rw[hV];simp only[dF];have:=uO nK l j;rw[hE] at hlen;unfold fZ at hlen;rw[dF,←hn] at hlen;unfold nM at hlen ⊢;omega
 have HVL:=ah Ah;have HV:=ah (And.intro hV0 (And.intro Ai Yy));have mD:=ah hok;have HN:=ah hn;have HR:=ah hv;have H:=ah h;obtain⟨Po,dU⟩:∃P:Ending→World→Prop,P=fun e w'=>∃(b:Option Addr) (d:Nat) (J:Mem),e=.returned (.slice b E.length d)∧Mem.le I J∧bT.rel J [.slice b E.length d] E∧Sat W w' (sep (kn J) A):=⟨_,rfl⟩
 rw[←dU];have bI:=ah dU;have hb0:=dY (r:=(n:Int)) (by omega) (by omega);clear hv hok hlen h hn hE hV hV0 Ai Yy Ah dU;have n63:(n:Int)≤9223372036854775807:=by omega
 go_enter Tryz.func141,Tryz.ntmps141
 go_wp2_with fail
 refine (iH (n:Int) (by omega) (by omega) H.out).mono ?_;rintro e w2 ⟨a1,c1,rfl,h2⟩;obtain⟨m,hm⟩:=aB ((PA.encI n).length);obtain⟨vs,hvs⟩:=aB ((PA.encI n).map bv);rw[←hm,←hvs] at h2;rw[←hm];have HM:=ah (And.intro hm hvs);have H2:=ah h2;clear hm hvs h2 H hb0
 go_wp2_with fail
 go_loopw [3,4] (fun ov kv wr=>∃(k:Nat) (a':Option Addr) (n' c':Nat) (vs:List Value) (J:Mem),ov=.slice a' n' c'∧kv=.int .i64 k∧k≤n∧Hid (n'=(V k).length∧vs=(V k).map bv∧Mem.le I J)∧Sat W wr (sep (aT 5 1 a' n' c' vs) (sep (kn J) A))) (fun _ kv _=>n-(intOf kv).toNat)
 case atStart=>exact⟨0,a1,m,c1,vs,I,rfl,rfl,by omega,ah ⟨by rw[HM.out.1,HV.out.1],by rw[HM.out.2,HV.out.1],Mem.le_refl I⟩,H2.out⟩
 case round=>
  obtain⟨k,a',n',c',vs',J,rfl,rfl,hk,HVV,hS⟩:=hrel;clear H2
  by_cases hlt:k<n
  ·have hltz:(k:Int)<(n:Int):=by omega
   obtain⟨g,hg⟩:∃g,l[k]?=some g:=⟨_,List.getElem?_eq_getElem (by have:=HN.out;omega)⟩
   have hgm:g∈l:=List.mem_of_getElem? hg;obtain⟨b,o,ra,rc,p,q,x1,n1,d1,x2,n2,d2,rfl,hrr,hrb,hcell⟩:=uI HR.out hg;have hext:Ext I wr:=tJ HVV.out.2.2 hS.p1.ext;obtain⟨k0,k1,k2,k3,k4⟩:=hcell wr hext;obtain⟨nr,hnr⟩:=aB (g.refs.length);have QN:=mD.out g hgm;have hrs:=Eb (W:=W) (w:=wr) (A:=sep (aT 5 1 a' n' c' vs') (sep (kn J) A)) ra nr rc g.refs hnr QN.rn QN.r64 (fun w' B hs i r hr=>by
    obtain⟨b',o',e',hc'⟩:=nO hrr hr;exact⟨b',o',e',hc' w' (tJ HVV.out.2.2 hs.p2.ext)⟩) hS
   obtain⟨m1,hm1⟩:=aB ((fO g.refs).length);obtain⟨v1,hv1⟩:=aB ((fO g.refs).map bv);obtain⟨m2,hm2⟩:=aB ((encR (bZ g.body)).length);obtain⟨v2,hv2⟩:=aB ((encR (bZ g.body)).map bv);rw[←hnr] at k0;rw[←hm1,←hv1] at hrs;have hb1:n'+m1+m2≤134217728:=by
    have h1:=HVL.out (k+1);rw[HV.out.2.1 k g hg,dF,dF,←HVV.out.1,←hm1,←hm2] at h1;exact h1
   have HRS:=ah hrs;have pI:Hid (V (k+1)=V k++fO g.refs++encR (bZ g.body)∧k<n):=ah ⟨HV.out.2.1 k g hg,hlt⟩;have Y5:=ah (And.intro hm1 hv1);have rO:=ah (And.intro hm2 hv2);have Sz:Hid (∀w' A' J',Mem.le I J'→Sat W w' (sep (kn J') A')→Calls Tryz.prog 139 #[.agg #[.int .i64 p,.int .i64 q,.slice x1 n1 d1,.slice x2 n2 d2]] w' fun e w''=>∃(a:Option Addr) (c:Nat) (J2:Mem),e=.returned (.slice a (bZ g.body).length c)∧Mem.le J' J2∧bT.rel J2 [.slice a (bZ g.body).length c] (bZ g.body)∧Sat W w'' (sep (kn J2) A')):=ah fun w' A' J' hl h'=>by
    refine (vS g.body w' A' p q x1 n1 d1 x2 n2 d2 (rF.mono hl hrb) QN.b64 (by have:=QN.bl;omega) h').mono ?_;rintro e w'' ⟨a,c,rfl,h3⟩;obtain⟨J2,hle,hr',h4⟩:=iy h3 rfl;exact⟨a,c,J2,rfl,hle,hr',h4⟩
   have U8:=ah (show (bZ g.body).length≤1073741824 by have:=QN.bl;omega);obtain⟨mb,hmb⟩:=aB ((bZ g.body).length);rw[←hmb] at Sz U8;have XH:=ah hmb;have HC:=ah hcell;have xq:=ah hb1;clear hg hgm hrr hrb hcell hext QN hrs hm1 hv1 hm2 hv2 hb1 hnr hlt hk hS hmb
   go_upto_region 5 with (fail)
   go_wp2_with fail
   refine HRS.out.mono ?_;rintro e w3 ⟨a2,c2,rfl,h3⟩;clear HRS k0 k1 k2 k3 k4;have jw:Hid (oH w3 a2 m1 v1):=ah (by rw[Y5.out.2,Y5.out.1] at h3 ⊢;exact jg h3);have h4:=h3.drop;clear h3
   go_wp2_with (at_builtin;(refine aJ rfl (.tmp 14) (.tmp 20) 51 rfl 5 1 1 (.int .u8 0) Tryz.underlying51 eH rfl rfl h4 rfl v1 jw.out.len jw.out.nil jw.out.src jw.out.one (by have:=xq.out;omega) (by have:=xq.out;unfold maxLen;omega) ?_))
   intro a4 c4 w4 h5;have H5:=ah h5;obtain⟨k0,k1,k2,k3,k4⟩:=HC.out w4 (tJ HVV.out.2.2 h5.p1.ext);clear h4 h5 jw
   go_upto_region 6 with (fail)
   go_wp2_with fail
   refine (Sz.out w4 _ J HVV.out.2.2 (show Sat W w4 (sep (kn J) (sep (aT 5 1 a4 (n'+m1) c4 (vs'++v1)) A)) from by have:=H5.out;simpa only[aA,ay,aj] using this)).mono ?_;rintro e w5 ⟨a5,c5,J2,rfl,hle2,hr2,h6⟩;have HJ2:=ah (And.intro hle2 hr2);have H6:=ah h6;clear h6 hle2 hr2 Sz k0 k1 k2 k3 k4 H5
   go_wp2_with fail
   refine (mX (.slice a5 mb c5) (bZ g.body) H6.out HJ2.out.2 (by rw[←XH.out];exact U8.out)).mono ?_;rintro e w6 ⟨a6,c6,rfl,h7⟩;rw[←rO.out.1,←rO.out.2] at h7;rw[←rO.out.1];have jw:Hid (oH w6 a6 m2 v2):=ah (by rw[rO.out.2,rO.out.1] at h7 ⊢;exact jg h7);have h8:Sat W w6 (sep (aT 5 1 a4 (n'+m1) c4 (vs'++v1)) (sep (kn J2) A)):=by have:=h7.drop;simpa only[aA,ay,aj] using this
   clear h7 H6
   go_wp2_with (at_builtin;(refine aJ rfl (.tmp 22) (.tmp 29) 51 rfl 5 1 1 (.int .u8 0) Tryz.underlying51 eH rfl rfl h8 rfl v2 jw.out.len jw.out.nil jw.out.src jw.out.one (by have:=xq.out;omega) (by have:=xq.out;unfold maxLen;omega) ?_))
   intro a7 c7 w7 h9;have H9:=ah h9;clear h8 h9 jw
   go_wp2_with fail
   go_roundw
   case rel=>
    refine⟨k+1,a7,n'+m1+m2,c7,_,J2,rfl,by go_num,by have:=pI.out.2;omega,ah ⟨?_,?_,eG HVV.out.2.2 HJ2.out.1⟩,H9.out⟩
    ·rw[pI.out.1,dF,dF,HVV.out.1,Y5.out.1,rO.out.1]
    ·rw[pI.out.1,oO,oO,HVV.out.2.1,Y5.out.2,rO.out.2,List.append_assoc]
   case measure=>simp[intOf];have:=pI.out.2;omega
  ·obtain rfl:k=n:=by omega
   have HF:Hid (n'=E.length∧vs'=E.map bv∧Mem.le I J):=ah (by rw[←HV.out.2.2];exact HVV.out);have h5:Sat W wr (sep (aT 5 1 a' n' c' (E.map bv)) (sep (kn J) A)):=by rw[←HF.out.2.1];exact hS
   obtain⟨J2,hle2,hr2,h6⟩:=iy h5 HF.out.1;have HS:=ah (And.intro hle2 (And.intro hr2 h6));clear hS HVV h5 hle2 hr2 h6 hlt hk
   go_wp2
   rw[bI.out];exact⟨a',c',J2,by rw[←HF.out.1];try rfl,eG HF.out.2.2 HS.out.1,by rw[←HF.out.1];exact HS.out.2.1,HS.out.2.2⟩
set_option maxHeartbeats 2000000 in
theorem um {W w:World} {A:aC} {I:Mem} (a:Option Addr) (n c:Nat) (l:List Cl) (hv:(kM.slice 5).rel I [.slice a n c] l) (hB:∀x∈l,x.body.size≤mg) (hok:∀x∈l,EG x) (hlen:(fZ l).length≤134217728) (h:Sat W w (sep (kn I) A)):
 Calls Tryz.prog 84 #[.slice a n c] w fun e w'=>∃(b:Option Addr) (m d:Nat) (J:Mem),e=.returned (.tuple #[.slice b m d,.int .i64 (pR l)])∧Mem.le I J∧bT.rel J [.slice b m d] (gU l)∧Sat W w' (sep (kn J) A):=by
 have H1:=ah h;obtain⟨rv,dK⟩:=aB (pR l);obtain⟨E,hE⟩:=aB (gU l);have sH:Hid (∀w' A',Sat W w' (sep (kn I) A')→Calls Tryz.prog 140 #[.slice a n c] w' fun e w''=>e=.returned (.int .i64 rv)∧Sat W w'' (sep (kn I) A')):=ah fun w' A' h'=>by rw[dK];exact kZ a n c l hv hB h'
 have Sz:Hid (rv=0→∀w' A',Sat W w' (sep (kn I) A')→Calls Tryz.prog 141 #[.slice a n c] w' fun e w''=>∃(a:Option Addr) (n c:Nat) (J:Mem),e=.returned (.slice a n c)∧Mem.le I J∧bT.rel J [.slice a n c] E∧Sat W w'' (sep (kn J) A')):=ah fun h0 w' A' h'=>by
  refine (Fa a n c l hv hok hlen h').mono ?_;rintro e w'' ⟨b,d,J,rfl,hle,hr',h4⟩;refine⟨b,_,d,J,rfl,hle,?_,h4⟩;rw[hE];unfold gU;rw[if_pos (by rw[←dK];exact h0)];exact hr'
 have rM:Hid (rv≠0→E=[]):=ah fun h0=>by rw[hE];unfold gU;rw[if_neg (by rw[←dK];exact h0)]
 rw[←dK,←hE];obtain⟨Po,dU⟩:∃P:Ending→World→Prop,P=fun e w'=>∃(b:Option Addr) (m d:Nat) (J:Mem),e=.returned (.tuple #[.slice b m d,.int .i64 rv])∧Mem.le I J∧bT.rel J [.slice b m d] E∧Sat W w' (sep (kn J) A):=⟨_,rfl⟩
 rw[←dU];have bI:=ah dU;clear hv hB hok hlen h dK hE dU
 by_cases hb0:rv=0
 ·subst hb0
  have Aa:=ah (Sz.out rfl);clear Sz rM
  go_enter Tryz.func84,Tryz.ntmps84
  go_wp2_with fail
  refine (sH.out _ _ H1.out).mono ?_;rintro e w2 ⟨rfl,h2⟩;have H2:=ah h2;clear h2 sH
  go_wp2_with fail
  refine (Aa.out _ _ H2.out).mono ?_;rintro e w3 ⟨a,n,c,J,rfl,hle,hr,h3⟩;have HF:=ah (And.intro hle (And.intro hr h3));clear h3 hle hr Aa
  go_wp2
  rw[bI.out];exact⟨a,n,c,J,rfl,HF.out.1,HF.out.2.1,HF.out.2.2⟩
 ·have GX:=ah (rM.out hb0)
  have hb1:(rv !=0)=true:=by simpa using hb0
  have hb2:(rv==0)=false:=by simpa using hb0
  clear Sz rM hb0
  go_enter Tryz.func84,Tryz.ntmps84
  go_wp2_with fail
  refine (sH.out _ _ H1.out).mono ?_;rintro e w2 ⟨rfl,h2⟩;have HF:=ah h2;clear h2 sH
  go_wp2
  rw[bI.out];exact⟨none,0,0,I,rfl,Mem.le_refl I,by rw[GX.out];exact iZ I,HF.out⟩
end Go.Proofs.YthfmaclnccdcbaaGreatDoor
namespace PA
open Go Go.RowKit
theorem Gw {e:Int→List UInt8} {l:List Int} {j:Nat} {g:Int} (h:l[j]?=some g):((l.take (j+1)).map e).flatten=((l.take j).map e).flatten++e g:=by
 rw[List.take_add_one,h];simp
end PA
namespace Go.Proofs.YthfmaclnccdcbaaGreatDoor
open Go.RowKit PA
def XZ (p:Array (Nat×Value)):Sem Value:=Instr.buildSlice 22 11 p
theorem sQ (p:Array (Nat×Value)):Instr.buildSlice 22 11 p=XZ p:=rfl
theorem Tn (w:World) (a b c d e f g h i j k:Int):(XZ #[(0,.int .i64 a),(1,.int .i64 b),(2,.int .i64 c),(3,.int .i64 d),(4,.int .i64 e),(5,.int .i64 f),(6,.int .i64 g),(7,.int .i64 h),(8,.int .i64 i),(9,.int .i64 j),(10,.int .i64 k)]).run Tryz.prog w=.ok (.slice (some ⟨w.heap.size,0,none⟩) 11 11) (w.alloc (.cells #[.int .i64 a,.int .i64 b,.int .i64 c,.int .i64 d,.int .i64 e,.int .i64 f,.int .i64 g,.int .i64 h,.int .i64 i,.int .i64 j,.int .i64 k] 3)):=by
 obtain⟨i,h1,h2,h3,h4⟩:=info_parts KA;exact run_buildSlice w 22 3 11 _ _ i _ Tryz.underlying22 h1 h2 (by rw[h3];omega) (by rw[h3];omega) (by rw[h3];kernel_rfl)
end Go.Proofs.YthfmaclnccdcbaaGreatDoor

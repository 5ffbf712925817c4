/- Part of a proof. -/
import Derived.Test.YthfmaclnccdcbaaGreatDoorGActsOrder33
namespace Go.Proofs.YthfmaclnccdcbaaGreatDoor
open Go.RowKit PA
attribute [local go_sem ↓] bW dB aY sQ
set_option maxRecDepth 100000 in
set_option maxHeartbeats 16000000 in
theorem pq {W w:World} {A:aC} {I:Mem} (z:Ac) (x:Pa) (hA:kX I z x) (hz:SX x) (hE:kK x) (h:Sat W w (sep (kn I) A)):
 Calls Tryz.prog 27 #[.agg z.cells.toArray] w fun e w'=>∃(b:Option Addr) (m d:Nat) (J:Mem),e=.returned (.tuple #[.slice b m d,.int .i64 (if aZ x=true then 0 else 1)])∧Mem.le I J∧bT.rel J [.slice b m d] (gZ x)∧Sat W w' (sep (kn J) A):=by
 have h1:=(h.alloc (.cells z.cells.toArray 36)).p1;obtain⟨B,hB⟩:=aB (w.heap.size);obtain⟨w1,hw1⟩:=aB (w.alloc (.cells z.cells.toArray 36));rw[←hB,←hw1] at h1;have HB:=ah (And.intro hB hw1);have hld:=gB h1.p1;obtain⟨X,hX⟩:=aB (sep (blk B (.cells z.cells.toArray 36 (0,0))) A);have HXP:Hid (∀w' J Y,Sat W w' (sep Y (sep (kn J) X))→Sat W w' (sep (blk B (.cells z.cells.toArray 36 (0,0))) (sep Y (sep (kn J) A)))):=ah fun w' J Y h'=>by rw[hX] at h';simpa only[aA,ay,aj] using h'
 have HXQ:Hid (∀w' J,Sat W w' (sep (kn J) X)→Sat W w' (sep (blk B (.cells z.cells.toArray 36 (0,0))) (sep (kn J) A))):=ah fun w' J h'=>by rw[hX] at h';simpa only[aA,ay,aj] using h'
 have h1':Sat W w1 (sep (kn I) X):=by rw[hX];simpa only[aA,ay,aj] using h1
 obtain⟨rv,dK⟩:∃y:Int,y=if aZ x=true then 0 else 1:=⟨_,rfl⟩
 obtain⟨E,hEE⟩:=aB (gZ x);obtain⟨F,hF⟩:=aB (Ce x);have GX:Hid ((rv=0∧E=F)∨(rv=1∧E=[])):=ah (by
  rw[dK,hEE,hF];unfold gZ
  by_cases hv:aZ x=true
  ·rw[if_pos hv,if_pos hv];exact .inl ⟨rfl,rfl⟩
  ·rw[if_neg hv,if_neg hv];exact .inr ⟨rfl,rfl⟩)
 have Qk:Hid (∀w' A',Sat W w' (sep (kn I) A')→Calls Tryz.prog 18 #[.agg z.cells.toArray] w' fun e w''=>∃J,e=.returned (.int .i64 rv)∧Mem.le I J∧Sat W w'' (sep (kn J) A')):=ah fun w' A' h'=>by rw[dK];exact yu z x hA hz h'
 obtain⟨te,hte⟩:=aB (ED x.td x.tc);obtain⟨T,hT⟩:=aB (jE x.td x.tc);obtain⟨fe,hfe⟩:=aB (jV x.fx);obtain⟨G,hG⟩:=aB (gu x.fx);obtain⟨ce,hce⟩:=aB (pR x.cl);obtain⟨C,hC⟩:=aB (gU x.cl);have HCT:Hid (∀w' A' J,Mem.le I J→Sat W w' (sep (kn J) A')→Calls Tryz.prog 81 #[.agg #[.slice z.td.a z.td.n z.td.c,.slice z.tc.a z.tc.n z.tc.c]] w' fun e w''=>∃(b:Option Addr) (m d:Nat) (J2:Mem),e=.returned (.tuple #[.slice b m d,.int .i64 te])∧Mem.le J J2∧bT.rel J2 [.slice b m d] T∧Sat W w'' (sep (kn J2) A')):=ah fun w' A' J hl h'=>by
  rw[hte,hT];exact D6 _ _ _ _ _ _ x.td x.tc ((rF.slice 4).mono hl hA.td) ((kM.slice 5).mono hl hA.tc) hz.td hz.tc hE.td hE.tc hE.lt hE.ltc h'
 have HCF:Hid (∀w' A' J,Mem.le I J→Sat W w' (sep (kn J) A')→Calls Tryz.prog 83 #[.agg #[.int .i64 z.fo,.int .i64 z.fn,.slice z.fi.a z.fi.n z.fi.c,.slice z.fk.a z.fk.n z.fk.c]] w' fun e w''=>∃(b:Option Addr) (m d:Nat) (J2:Mem),e=.returned (.tuple #[.slice b m d,.int .i64 fe])∧Mem.le J J2∧bT.rel J2 [.slice b m d] G∧Sat W w'' (sep (kn J2) A')):=ah fun w' A' J hl h'=>by
  rw[hfe,hG];exact uj x.fx _ _ _ _ _ _ _ _ (rF.mono hl hA.fx) hz.fx hE.fx.b64 (by have:=hE.fx.bl;omega) h'
 have HCC:Hid (∀w' A' J,Mem.le I J→Sat W w' (sep (kn J) A')→Calls Tryz.prog 84 #[.slice z.cl.a z.cl.n z.cl.c] w' fun e w''=>∃(b:Option Addr) (m d:Nat) (J2:Mem),e=.returned (.tuple #[.slice b m d,.int .i64 ce])∧Mem.le J J2∧bT.rel J2 [.slice b m d] C∧Sat W w'' (sep (kn J2) A')):=ah fun w' A' J hl h'=>by
  rw[hce,hC];exact um _ _ _ x.cl ((kM.slice 5).mono hl hA.cl) hz.cl hE.cl hE.lcl h'
 obtain⟨L,hL⟩:=aB (fH x);have hLz:L=[z.k,z.d,z.n,z.f,z.o,z.p,z.q,z.u,z.m,z.sn,z.sd]:=by rw[hL,hA.k,hA.d,hA.n,hA.f,hA.o,hA.p,hA.q,hA.u,hA.m,hA.sn,hA.sd];rfl
 have Ic:∀r∈L,-9223372036854775808≤r∧r≤9223372036854775807:=by rw[hL];exact hE.n64
 obtain⟨V,hV⟩:∃V:Nat→List UInt8,V=fun j=>((L.take j).map PA.encI).flatten:=⟨_,rfl⟩
 have hV0:V 0=[]:=by rw[hV];simp
 have Ai:∀j g,L[j]?=some g→V (j+1)=V j++PA.encI g:=fun j g hg=>by rw[hV];simp only;rw[Gw hg]
 have Zo:L.length=11:=by rw[hL];rfl
 have Ah:∀j,(V j).length≤10*j:=by
  intro j
  induction j with
  | zero=>rw[hV0];simp
  | succ j ih=>
   cases hg:L[j]? with
   | none=>rw[hV] at ih ⊢;simp only at ih ⊢;rw[List.take_add_one,hg];simp at ih ⊢;omega
   | some g=>
    rw[Ai j g hg,dF];have:=dY (Ic g (List.mem_of_getElem? hg)).1 (Ic g (List.mem_of_getElem? hg)).2;omega
 obtain⟨K,hK⟩:=aB (iE x);obtain⟨Q,hQ⟩:=aB (sZ x);have hFe:F=V 11++K++Q:=by rw[hF,hV,hK,hQ];simp only;rw[←Zo,List.take_length,hL];rfl
 have hFl:F.length≤1073741824:=by rw[hF];exact hE.lw
 have hTl:T.length≤268435456:=by rw[hT];exact mJ hE.lt
 have hGl:G.length≤16777216:=by rw[hG];exact kC hE.fx.bl
 have hCl:C.length≤134217728:=by rw[hC];exact jc hE.lcl
 have hea:=(aI hA.ea).1;have abD:=(aI hA.ea).2.2;have hK1:z.k=0→K=encR T++PA.encI z.ea.n++kQ x.ea:=fun h0=>by rw[hK,hT,hea];unfold iE;rw[if_pos (by rw[←hA.k];exact h0)]
 have hK2:¬z.k=0→z.k=19→K=encR G:=fun h0 h1=>by rw[hK,hG];unfold iE;rw[if_neg (by rw[←hA.k];exact h0),if_pos (by rw[←hA.k];exact h1)]
 have hK3:¬z.k=0→¬z.k=19→K=[]:=fun h0 h1=>by rw[hK];unfold iE;rw[if_neg (by rw[←hA.k];exact h0),if_neg (by rw[←hA.k];exact h1)]
 have hcn:=(aI hA.cl).1;have afH:=(aI hA.cl).2.2;have hQ0:z.cl.n=0→Q=[]:=fun h0=>by rw[hQ];unfold sZ;rw[if_pos (List.length_eq_zero_iff.1 (by rw[←hcn];exact h0))]
 have hQ1:z.cl.n≠0→Q=encR C:=fun h0=>by rw[hQ,hC];unfold sZ;rw[if_neg (fun hh=>h0 (by rw[hcn,hh];rfl))]
 have HL:=ah (And.intro Zo (And.intro hLz Ic));have HV:=ah (And.intro hV0 (And.intro Ai Ah));have HK:=ah (And.intro hK1 (And.intro hK2 hK3));have HQ:=ah (And.intro hQ0 hQ1);have vY:=ah (And.intro hFe hFl);have HTL:=ah (And.intro hTl (And.intro hGl hCl));have RI:=ah (And.intro hA.ea (And.intro hE.ea hea));have H1:=ah h1';rw[←dK,←hEE];obtain⟨Po,dU⟩:∃P:Ending→World→Prop,P=fun e w'=>∃(b:Option Addr) (m d:Nat) (J:Mem),e=.returned (.tuple #[.slice b m d,.int .i64 rv])∧Mem.le I J∧bT.rel J [.slice b m d] E∧Sat W w' (sep (kn J) A):=⟨_,rfl⟩
 rw[←dU];have bI:=ah dU;clear hA hz hE h h1 h1' hB hw1 hX dK hEE hF hte hT hfe hG hce hC hL hLz Ic hV hV0 Ai Zo Ah hK hQ hFe hFl hTl hGl hCl hea hK1 hK2 hK3 hcn hQ0 hQ1 dU
 go_enter Tryz.func27,Tryz.ntmps27
 go_upto_region 1 with (fail)
 rw[←HB.out.1,←HB.out.2]
 go_wp2_with fail
 refine (Qk.out _ _ H1.out).mono ?_;rintro e w2 ⟨J,rfl,hle,h2⟩;have h2':=HXQ.out _ _ h2;have k0:=(au h2' 0 _ rfl).1;have k1:=(au h2' 1 _ rfl).1;have k2:=(au h2' 2 _ rfl).1;have k3:=(au h2' 3 _ rfl).1;have k4:=(au h2' 4 _ rfl).1;have k5:=(au h2' 5 _ rfl).1;have k6:=(au h2' 6 _ rfl).1;have k7:=(au h2' 7 _ rfl).1;have k8:=(au h2' 8 _ rfl).1;have k9:=(au h2' 9 _ rfl).1;have k10:=(au h2' 10 _ rfl).1;have H2:=ah h2;have HJ:=ah hle;clear h2 h2' hle hld H1 Qk;rcases GX.out with ⟨h0,hEF⟩|⟨h0,hEF⟩
 case inr=>
  subst h0;have HEF:=ah hEF;have HF:=ah (HXQ.out _ _ H2.out).drop;clear hEF k0 k1 k2 k3 k4 k5 k6 k7 k8 k9 k10 H2
  go_wp2
  rw[bI.out];exact⟨none,0,0,J,rfl,HJ.out,by rw[HEF.out];exact iZ J,HF.out⟩
 case inl=>
 subst h0;have HEF:=ah hEF;clear hEF GX;have hbs:=Tn w2 z.k z.d z.n z.f z.o z.p z.q z.u z.m z.sn z.sd;have hA2:=H2.out.alloc (.cells #[.int .i64 z.k,.int .i64 z.d,.int .i64 z.n,.int .i64 z.f,.int .i64 z.o,.int .i64 z.p,.int .i64 z.q,.int .i64 z.u,.int .i64 z.m,.int .i64 z.sn,.int .i64 z.sd] 3);obtain⟨N,hN⟩:=aB (w2.heap.size);obtain⟨w3,hw3⟩:=aB (w2.alloc (.cells #[.int .i64 z.k,.int .i64 z.d,.int .i64 z.n,.int .i64 z.f,.int .i64 z.o,.int .i64 z.p,.int .i64 z.q,.int .i64 z.u,.int .i64 z.m,.int .i64 z.sn,.int .i64 z.sd] 3));rw[←hN,←hw3] at hbs hA2;obtain⟨Y,hY⟩:=aB (sep (blk N (.cells #[.int .i64 z.k,.int .i64 z.d,.int .i64 z.n,.int .i64 z.f,.int .i64 z.o,.int .i64 z.p,.int .i64 z.q,.int .i64 z.u,.int .i64 z.m,.int .i64 z.sn,.int .i64 z.sd] 3 (0,0))) (sep (kn J) X));have HYD:Hid (∀w' Z,Sat W w' (sep Z Y)→Sat W w' (sep Z (sep (kn J) X))):=ah fun w' Z h'=>by
  rw[hY] at h';exact Sat.drop (by simpa only[aA,ay,aj] using h':Sat W w' (sep (blk N (.cells #[.int .i64 z.k,.int .i64 z.d,.int .i64 z.n,.int .i64 z.f,.int .i64 z.o,.int .i64 z.p,.int .i64 z.q,.int .i64 z.u,.int .i64 z.m,.int .i64 z.sn,.int .i64 z.sd] 3 (0,0))) (sep Z (sep (kn J) X))))
 have HYC:Hid (∀w' Z k r,Sat W w' (sep Z Y)→L[k]?=some r→w'.cell? ⟨N,k,none⟩=some (.int .i64 r)):=ah fun w' Z k r h' hr=>by
  rw[hY] at h';rw[h'.p1.cell k];rw[HL.out.2.1] at hr
  match k,hr with
  | 0,hr|1,hr|2,hr|3,hr|4,hr|5,hr|6,hr|7,hr|8,hr|9,hr|10,hr=>simp at hr;subst hr;rfl
  | k+11,hr=>simp at hr
 rw[←hY] at hA2;have H3:=ah (hA2.gq 5 1);clear hN hA2 hY H2
 go_upto_region 4 with (fail)
 try rw[←hw3]
 clear hbs hw3 k0 k1 k2 k3 k4 k5 k6 k7 k8 k9 k10
 go_wp2_with fail
 go_loopw [5,6] (fun ov kv wr=>∃(k:Nat) (a':Option Addr) (n' c':Nat) (vs:List Value),ov=.slice a' n' c'∧kv=.int .i64 k∧k≤11∧Hid (n'=(V k).length∧vs=(V k).map bv)∧Sat W wr (sep (aT 5 1 a' n' c' vs) Y)) (fun _ kv _=>11-(intOf kv).toNat)
 case atStart=>exact⟨0,none,0,0,[],rfl,rfl,by omega,ah ⟨by rw[HV.out.1];rfl,by rw[HV.out.1];rfl⟩,H3.out⟩
 case round=>
  obtain⟨k,a',n',c',vs',rfl,rfl,hk,HVV,hS⟩:=hrel;clear H3
  by_cases hlt:k<11
  ·have hltz:(k:Int)<11:=by omega
   obtain⟨r,hr⟩:∃r,L[k]?=some r:=⟨_,List.getElem?_eq_getElem (by have:=HL.out.1;omega)⟩
   have j0:=HYC.out _ _ k r hS hr;have Dh:=HL.out.2.2 r (List.mem_of_getElem? hr);have hb2:(PA.encI r).length≤10:=dY Dh.1 Dh.2;have hb1:n'≤110:=by rw[HVV.out.1];have:=HV.out.2.2 k;omega
   have aaO:=ah Dh;obtain⟨m2,hm2⟩:=aB ((PA.encI r).length);obtain⟨us,hus⟩:=aB ((PA.encI r).map bv);rw[←hm2] at hb2;have HU:=ah (And.intro hm2 hus);have pI:Hid (V (k+1)=V k++PA.encI r∧k<11):=ah ⟨HV.out.2.1 k r hr,hlt⟩;have uF:=ah (And.intro hb1 hb2);have HS:=ah hS;clear hr Dh hb1 hb2 hm2 hus hS hlt hk
   go_wp2_with fail
   refine (iH r aaO.out.1 aaO.out.2 HS.out).mono ?_;rintro e w4 ⟨a2,c2,rfl,h3⟩;rw[←HU.out.1,←HU.out.2] at h3;rw[←HU.out.1];have jw:Hid (oH w4 a2 m2 us):=ah (by rw[HU.out.2,HU.out.1] at h3 ⊢;exact jg h3);have h4:=h3.drop;clear h3 HS j0
   go_wp2_with (at_builtin;(refine aJ rfl (.tmp 48) (.tmp 53) 51 rfl 5 1 1 (.int .u8 0) Tryz.underlying51 eH rfl rfl h4 rfl us jw.out.len jw.out.nil jw.out.src jw.out.one (by have:=uF.out;omega) (by have:=uF.out;unfold maxLen;omega) ?_))
   intro a4 c4 w5 h5;have H5:=ah h5;clear h4 h5 jw
   go_wp2_with fail
   go_roundw
   case rel=>
    refine⟨k+1,a4,n'+m2,c4,_,rfl,by go_num,by have:=pI.out.2;omega,ah ⟨?_,?_⟩,H5.out⟩
    ·rw[pI.out.1,dF,HVV.out.1,HU.out.1]
    ·rw[pI.out.1,oO,HVV.out.2,HU.out.2]
   case measure=>simp[intOf];have:=pI.out.2;omega
  ·obtain rfl:k=11:=by omega
   have hS2:=HYD.out _ _ hS;have hp:=HXP.out _ _ _ hS2;have k0:=(au hp 0 _ rfl).1;have k11:=(au hp 11 _ rfl).1;have k12:=(au hp 12 _ rfl).1;have k15:=(au hp 15 _ rfl).1;have k16:=(au hp 16 _ rfl).1;have k17:=(au hp 17 _ rfl).1;have k18:=(au hp 18 _ rfl).1;have HS:=ah hS2;obtain⟨P1,hP1⟩:=aB (V 11);have oz:Hid (n'=P1.length∧vs'=P1.map bv∧F=P1++K++Q∧P1.length+K.length+Q.length≤1073741824):=ah (by
    have h1:=vY.out.1;have h2:=vY.out.2;rw[←hP1] at h1;refine⟨by rw[hP1];exact HVV.out.1,by rw[hP1];exact HVV.out.2,h1,?_⟩;rw[h1,dF,dF] at h2;exact h2)
   have hltz:¬((11:Nat):Int)<11:=by omega
   clear hS hS2 hp hlt hk HVV hP1 HYC HYD HV vY
   go_upto_block 2 with (fail)
   obtain⟨b0,hb0⟩:∃b,(z.k==0)=b:=⟨_,rfl⟩
   obtain⟨b19,Zq⟩:∃b,(z.k==19)=b:=⟨_,rfl⟩
   have HB0:Hid ((b0=true→z.k=0)∧(b0=false→¬z.k=0)∧(b19=true→z.k=19)∧(b19=false→¬z.k=19)):=ah (by rw[←hb0,←Zq];simp)
   go_cut [5] from 57 to 111 (fun ov wx=>∃(a2:Option Addr) (n2 c2:Nat) (vs2:List Value) (J2:Mem),ov=.slice a2 n2 c2∧Hid (n2=P1.length+K.length∧vs2=(P1++K).map bv∧Mem.le I J2)∧Sat W wx (sep (aT 5 1 a2 n2 c2 vs2) (sep (kn J2) X)))
   case first=>
    as_aux_lemma=>
    cases b0 with
    | true=>
     have VH:=ah (HK.out.1 (HB0.out.1 rfl));clear k15 k16 k17 k18 Zq;have hS3:Sat W wr (sep (kn J) (sep (aT 5 1 a' n' c' vs') X)):=by have:=HS.out;simpa only[aA,ay,aj] using this
     have O6:=ah hS3;clear hS3 HS
     go_wp2_with fail
     refine (HCT.out _ _ _ HJ.out O6.out).mono ?_;rintro e w4 ⟨b4,m4,d4,J4,rfl,lN,hr4,h4⟩;have VF:=ah (And.intro lN hr4);have H4:=ah h4;clear h4 lN hr4 HCT k0 k11 k12 O6
     go_upto_region 12 with (fail)
     go_wp2_with fail
     refine (mX (.slice b4 m4 d4) T H4.out VF.out.2 (by have:=HTL.out.1;omega)).mono ?_;rintro e w5 ⟨a5,c5,rfl,h5⟩;obtain⟨m2,hm2⟩:=aB ((encR T).length);obtain⟨v2,hv2⟩:=aB ((encR T).map bv);rw[←hm2,←hv2] at h5;rw[←hm2];have rO:=ah (And.intro hm2 hv2);have jw:Hid (oH w5 a5 m2 v2):=ah (by rw[hv2,hm2] at h5 ⊢;exact jg h5);have h6:Sat W w5 (sep (aT 5 1 a' n' c' vs') (sep (kn J4) X)):=by have:=h5.drop;simpa only[aA,ay,aj] using this
     have hbd1:n'+m2≤1073741824:=by
      have h1:=oz.out;rw[VH.out,dF,dF,←hm2] at h1;omega
     have GU:=ah hbd1;clear h5 H4 hm2 hv2 hbd1
     go_wp2_with (at_builtin;(refine aJ rfl (.tmp 65) (.tmp 67) 51 rfl 5 1 1 (.int .u8 0) Tryz.underlying51 eH rfl rfl h6 rfl v2 jw.out.len jw.out.nil jw.out.src jw.out.one (by have:=GU.out;omega) (by have:=GU.out;unfold maxLen;omega) ?_))
     intro a7 c7 w7 h7;have H7:=ah h7;have k14:=(au (HXP.out _ _ _ h7) 14 _ rfl).1;clear h6 h7 jw
     go_upto_region 13 with (fail)
     go_wp2_with fail
     have hbn:(z.ea.n:Int)≤9223372036854775807:=abD;refine (iH (z.ea.n:Int) (by omega) hbn H7.out).mono ?_;rintro e w8 ⟨a8,c8,rfl,h8⟩;obtain⟨m8,hm8⟩:=aB ((PA.encI z.ea.n).length);obtain⟨v8,QT⟩:=aB ((PA.encI z.ea.n).map bv);rw[←hm8,←QT] at h8;rw[←hm8];have HM8:=ah (And.intro hm8 QT);have jw:Hid (oH w8 a8 m8 v8):=ah (by rw[QT,hm8] at h8 ⊢;exact jg h8);have h9:=h8.drop;have hbd2:n'+m2+m8≤1073741824:=by
      have h1:=oz.out;rw[VH.out,dF,dF,←rO.out.1,←hm8] at h1;omega
     have aax:=ah hbd2;clear h8 hm8 QT H7 hbd2 k14 GU
     go_wp2_with (at_builtin;(refine aJ rfl (.tmp 69) (.tmp 73) 51 rfl 5 1 1 (.int .u8 0) Tryz.underlying51 eH rfl rfl h9 rfl v8 jw.out.len jw.out.nil jw.out.src jw.out.one (by have:=aax.out;omega) (by have:=aax.out;unfold maxLen;omega) ?_))
     intro a10 c10 w10 h10;have Fh:=ah h10;clear h9 h10 jw;obtain⟨U,hU⟩:∃U:Nat→List UInt8,U=fun j=>P1++encR T++PA.encI z.ea.n++kQ (x.ea.take j):=⟨_,rfl⟩
     have hU0:U 0=P1++encR T++PA.encI z.ea.n:=by rw[hU];simp[kQ]
     have hUs:∀j g,x.ea[j]?=some g→U (j+1)=U j++PA.encI g.file++PA.encI g.day:=fun j g hg=>by rw[hU];simp only;unfold kQ;rw[mM oJ hg];unfold oJ;simp only[List.append_assoc]
     have hUe:U z.ea.n=P1++K:=by rw[hU,VH.out];simp only;rw[RI.out.2.2,List.take_length];simp only[List.append_assoc]
     have hUl:∀j,(U j).length≤1073741824:=fun j=>by
      have h1:=oz.out;rw[VH.out] at h1;rw[hU];simp only[dF] at h1 ⊢;have h2:=uO oJ x.ea j;unfold kQ at h1 ⊢;omega
     have HU:=ah (And.intro hU0 (And.intro hUs (And.intro hUe hUl)));have HUS:Hid (n'+m2+m8=(U 0).length∧vs'++(v2++v8)=(U 0).map bv):=ah (by
      rw[hU0,oz.out.1,oz.out.2.1,rO.out.1,rO.out.2,HM8.out.1,HM8.out.2];exact⟨by simp only[dF],by simp only[oO,List.append_assoc]⟩)
     obtain⟨ne,hne⟩:=aB (z.ea.n);have Vu:=ah hne;clear hU hU0 hUs hUe hUl
     go_wp2_with fail
     go_loopw [5,9] (fun ov kv wr=>∃(k:Nat) (a':Option Addr) (n' c':Nat) (vs:List Value),ov=.slice a' n' c'∧kv=.int .i64 k∧k≤ne∧Hid (n'=(U k).length∧vs=(U k).map bv)∧Sat W wr (sep (aT 5 1 a' n' c' vs) (sep (kn J4) X))) (fun _ kv _=>ne-(intOf kv).toNat)
     case atStart=>exact⟨0,a10,_,c10,_,rfl,rfl,by omega,HUS,Fh.out⟩
     case round=>
      obtain⟨t,a'',n'',c'',vs'',rfl,rfl,hj,Qm,hS⟩:=hrel;clear Fh;have k14:=(au (HXP.out _ _ _ hS) 14 _ rfl).1;rw[←hne] at k14
      by_cases hlt:t<ne
      ·have hltz:(t:Int)<(ne:Int):=by omega
       obtain⟨g,hg⟩:∃g,x.ea[t]?=some g:=⟨_,List.getElem?_eq_getElem (by rw[←RI.out.2.2,←hne];exact hlt)⟩
       obtain⟨b,o,hba,hcell⟩:=xG RI.out.1 hg;have abE:=RI.out.2.1 g (List.mem_of_getElem? hg);obtain⟨mf,hmf⟩:=aB ((PA.encI g.file).length);obtain⟨vf,hvf⟩:=aB ((PA.encI g.file).map bv);obtain⟨md,hmd⟩:=aB ((PA.encI g.day).length);obtain⟨vd,hvd⟩:=aB ((PA.encI g.day).map bv);have abx:n''+mf+md≤1073741824:=by
        have h1:=HU.out.2.2.2 (t+1);rw[HU.out.2.1 t g hg,dF,dF,←Qm.out.1,←hmf,←hmd] at h1;exact h1
       have pI:Hid (U (t+1)=U t++PA.encI g.file++PA.encI g.day∧t<ne):=ah ⟨HU.out.2.1 t g hg,hlt⟩;have HC:=ah hcell;have lN:Mem.le I J4:=eG HJ.out VF.out.1;have HL4:=ah lN;obtain⟨j0,j1⟩:=hcell wr (tJ lN hS.p1.ext);have HG:=ah abE;have O4:=ah (And.intro hmf (And.intro hvf (And.intro hmd hvd)));have VD:=ah abx;rw[hba] at k14;have HS:=ah hS;have HBA:=ah hba;clear hg hcell abE hmf hvf hmd hvd abx lN hlt hj hS hba
       go_upto_region 17 with (fail)
       go_wp2_with fail
       refine (iH g.file HG.out.1.1 HG.out.1.2 HS.out).mono ?_;rintro e w11 ⟨a11,c11,rfl,h11⟩;rw[←O4.out.1,←O4.out.2.1] at h11;rw[←O4.out.1];have jw:Hid (oH w11 a11 mf vf):=ah (by rw[O4.out.1,O4.out.2.1] at h11 ⊢;exact jg h11);have h12:=h11.drop;clear h11 HS k14 j0 j1
       go_wp2_with (at_builtin;(refine aJ rfl (.tmp 82) (.tmp 89) 51 rfl 5 1 1 (.int .u8 0) Tryz.underlying51 eH rfl rfl h12 rfl vf jw.out.len jw.out.nil jw.out.src jw.out.one (by have:=VD.out;omega) (by have:=VD.out;unfold maxLen;omega) ?_))
       intro Fq c13 Xv h13;have U6:=ah h13;have k14:=(au (HXP.out _ _ _ h13) 14 _ rfl).1;rw[←hne,HBA.out] at k14;obtain⟨j0,j1⟩:=HC.out Xv (tJ HL4.out h13.p1.ext);clear h12 h13 jw
       go_upto_region 18 with (fail)
       go_wp2_with fail
       refine (iH g.day HG.out.2.1 HG.out.2.2 U6.out).mono ?_;rintro e w14 ⟨EK,c14,rfl,CZ⟩;rw[←O4.out.2.2.1,←O4.out.2.2.2] at CZ;rw[←O4.out.2.2.1];have jw:Hid (oH w14 EK md vd):=ah (by rw[O4.out.2.2.1,O4.out.2.2.2] at CZ ⊢;exact jg CZ);have h15:=CZ.drop;clear CZ U6 k14 j0 j1
       go_wp2_with (at_builtin;(refine aJ rfl (.tmp 91) (.tmp 98) 51 rfl 5 1 1 (.int .u8 0) Tryz.underlying51 eH rfl rfl h15 rfl vd jw.out.len jw.out.nil jw.out.src jw.out.one (by have:=VD.out;omega) (by have:=VD.out;unfold maxLen;omega) ?_))
       intro a16 c16 w16 h16;have U7:=ah h16;clear h15 h16 jw
       go_wp2_with fail
       go_roundw
       case rel=>
        refine⟨t+1,a16,n''+mf+md,c16,_,rfl,by go_num,by have:=pI.out.2;omega,ah ⟨?_,?_⟩,U7.out⟩
        ·rw[pI.out.1,dF,dF,Qm.out.1,O4.out.1,O4.out.2.2.1]
        ·rw[pI.out.1,oO,oO,Qm.out.2,O4.out.2.1,O4.out.2.2.2,List.append_assoc]
       case measure=>simp[intOf];have:=pI.out.2;omega
      ·obtain rfl:t=ne:=by omega
       have HF:Hid (n''=P1.length+K.length∧vs''=(P1++K).map bv):=ah (by
        have h1:=HU.out.2.2.1;rw[←Vu.out] at h1;rw[←dF,←h1];exact Qm.out)
       have HS:=ah hS;clear hS hlt hj Qm
       go_wp2
       go_meet
       case rel=>exact⟨a'',n'',c'',vs'',J4,rfl,ah ⟨HF.out.1,HF.out.2,eG HJ.out VF.out.1⟩,HS.out⟩
    | false=>
     cases b19 with
     | true=>
      have SA:=ah (HK.out.2.1 (HB0.out.2.1 rfl) (HB0.out.2.2.1 rfl));clear k11 k12;have hS3:Sat W wr (sep (kn J) (sep (aT 5 1 a' n' c' vs') X)):=by have:=HS.out;simpa only[aA,ay,aj] using this
      have O6:=ah hS3;clear hS3 HS
      go_wp2_with fail
      refine (HCF.out _ _ _ HJ.out O6.out).mono ?_;rintro e w4 ⟨b4,m4,d4,J4,rfl,lN,hr4,h4⟩;have VF:=ah (And.intro lN hr4);have H4:=ah h4;clear h4 lN hr4 HCF k0 k15 k16 k17 k18 O6
      go_upto_region 21 with (fail)
      go_wp2_with fail
      refine (mX (.slice b4 m4 d4) G H4.out VF.out.2 (by have:=HTL.out.2.1;omega)).mono ?_;rintro e w5 ⟨a5,c5,rfl,h5⟩;obtain⟨m2,hm2⟩:=aB ((encR G).length);obtain⟨v2,hv2⟩:=aB ((encR G).map bv);rw[←hm2,←hv2] at h5;rw[←hm2];have rO:=ah (And.intro hm2 hv2);have jw:Hid (oH w5 a5 m2 v2):=ah (by rw[hv2,hm2] at h5 ⊢;exact jg h5);have h6:Sat W w5 (sep (aT 5 1 a' n' c' vs') (sep (kn J4) X)):=by have:=h5.drop;simpa only[aA,ay,aj] using this
      have hbd1:n'+m2≤1073741824:=by
       have h1:=oz.out;rw[SA.out,←hm2] at h1;omega
      have GU:=ah hbd1;clear h5 H4 hm2 hv2 hbd1
      go_wp2_with (at_builtin;(refine aJ rfl (.tmp 108) (.tmp 110) 51 rfl 5 1 1 (.int .u8 0) Tryz.underlying51 eH rfl rfl h6 rfl v2 jw.out.len jw.out.nil jw.out.src jw.out.one (by have:=GU.out;omega) (by have:=GU.out;unfold maxLen;omega) ?_))
      intro a7 c7 w7 h7;have H7:=ah h7;clear h6 h7 jw
      go_wp2
      go_meet
      case rel=>exact⟨a7,n'+m2,c7,_,J4,rfl,ah ⟨by rw[oz.out.1,rO.out.1,SA.out],by rw[oz.out.2.1,rO.out.2,SA.out,oO],eG HJ.out VF.out.1⟩,H7.out⟩
     | false=>
      have Z8:=ah (HK.out.2.2 (HB0.out.2.1 rfl) (HB0.out.2.2.2 rfl));clear k11 k12 k15 k16 k17 k18
      go_wp2
      go_meet
      case rel=>exact⟨a',n',c',vs',J,rfl,ah ⟨by rw[oz.out.1,Z8.out];simp,by rw[oz.out.2.1,Z8.out,List.append_nil],HJ.out⟩,HS.out⟩
   clear k0 k11 k12 k15 k16 k17 k18 hb0 Zq HB0 HS;obtain⟨a2,n2,c2,vs2,J2,rfl,Xx,h22⟩:=hcut;have k13:=(au (HXP.out _ _ _ h22) 13 _ rfl).1
   by_cases hc0:z.cl.n=0
   ·have hc1:¬(0:Int)<(z.cl.n:Int):=by omega
    have HQ0:=ah (HQ.out.1 hc0);have h23:Sat W wc (sep (aT 5 1 a2 n2 c2 (F.map bv)) (sep (kn J2) X)):=by
     rw[oz.out.2.2.1,HQ0.out,List.append_nil,←Xx.out.2.1];exact h22
    obtain⟨J3,hle3,hr3,h24⟩:=iy h23 (by rw[oz.out.2.2.1,HQ0.out,List.append_nil,Xx.out.1,dF]);have HF:=ah (And.intro hle3 (And.intro hr3 (HXQ.out _ _ h24).drop));clear h22 h23 h24 hle3 hr3 hc0
    go_wp2
    rw[bI.out];exact⟨a2,n2,c2,J3,rfl,eG Xx.out.2.2 HF.out.1,by rw[HEF.out];exact HF.out.2.1,HF.out.2.2⟩
   ·have hc1:(0:Int)<(z.cl.n:Int):=by omega
    have HQ1:=ah (HQ.out.2 hc0);have h23:Sat W wc (sep (kn J2) (sep (aT 5 1 a2 n2 c2 vs2) X)):=dJ h22;have H23:=ah h23;clear h22 h23 hc0
    go_wp2_with fail
    refine (HCC.out _ _ _ Xx.out.2.2 H23.out).mono ?_;rintro e w4 ⟨b4,m4,d4,J4,rfl,lN,hr4,h4⟩;have VF:=ah (And.intro lN hr4);have H4:=ah h4;clear h4 lN hr4 HCC k13 H23 hc1
    go_upto_region 24 with (fail)
    go_wp2_with fail
    refine (mX (.slice b4 m4 d4) C H4.out VF.out.2 (by have:=HTL.out.2.2;omega)).mono ?_;rintro e w5 ⟨a5,c5,rfl,h5⟩;obtain⟨m2,hm2⟩:=aB ((encR C).length);obtain⟨v2,hv2⟩:=aB ((encR C).map bv);rw[←hm2,←hv2] at h5;rw[←hm2];have rO:=ah (And.intro hm2 hv2);have jw:Hid (oH w5 a5 m2 v2):=ah (by rw[hv2,hm2] at h5 ⊢;exact jg h5);have h6:Sat W w5 (sep (aT 5 1 a2 n2 c2 vs2) (sep (kn J4) X)):=by have:=h5.drop;simpa only[aA,ay,aj] using this
    have hbd1:n2+m2≤1073741824:=by
     have h1:=oz.out.2.2.2;have h2:=Xx.out.1;rw[HQ1.out,←hm2] at h1;omega
    have GU:=ah hbd1;clear h5 H4 hm2 hv2 hbd1
    go_wp2_with (at_builtin;(refine aJ rfl (.tmp 122) (.tmp 124) 51 rfl 5 1 1 (.int .u8 0) Tryz.underlying51 eH rfl rfl h6 rfl v2 jw.out.len jw.out.nil jw.out.src jw.out.one (by have:=GU.out;omega) (by have:=GU.out;unfold maxLen;omega) ?_))
    intro a7 c7 w7 h7;have h23:Sat W w7 (sep (aT 5 1 a7 (n2+m2) c7 (F.map bv)) (sep (kn J4) X)):=by
     rw[oz.out.2.2.1,HQ1.out,oO,←Xx.out.2.1,←rO.out.2];exact h7
    obtain⟨J3,hle3,hr3,h24⟩:=iy h23 (by rw[oz.out.2.2.1,HQ1.out,dF,dF,Xx.out.1,rO.out.1]);have HF:=ah (And.intro hle3 (And.intro hr3 (HXQ.out _ _ h24).drop));clear h6 h7 h23 h24 hle3 hr3 jw
    go_wp2
    rw[bI.out];exact⟨a7,n2+m2,c7,J3,rfl,eG Xx.out.2.2 (eG VF.out.1 HF.out.1),by rw[HEF.out];exact HF.out.2.1,HF.out.2.2⟩
end Go.Proofs.YthfmaclnccdcbaaGreatDoor

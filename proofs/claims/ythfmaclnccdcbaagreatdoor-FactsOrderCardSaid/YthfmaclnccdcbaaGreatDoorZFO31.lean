/- Part of a proof. -/
import Derived.Test.YthfmaclnccdcbaaGreatDoorZFO30
namespace Go.Proofs.YthfmaclnccdcbaaGreatDoor
open Go.RowKit PA
attribute [local go_sem ↓] aY bI aV uy
set_option maxRecDepth 100000 in
set_option maxHeartbeats 16000000 in
theorem Gp {W w:World} {A:aB} {I:Mem} (z:Ac) (x:Pa) (hA:lT I z x) (hz:YK x) (hE:uj x) (h:Sat W w (sep (kn I) A)):
 Calls Tryz.prog 27 #[.agg z.cells.toArray] w fun e w'=>∃(b:Option Addr) (m d:Nat) (J:Mem),e=.returned (.tuple #[.slice b m d,.int .i64 (if bC x=true then 0 else 1)])∧Mem.le I J∧bZ.rel J [.slice b m d] (iI x)∧Sat W w' (sep (kn J) A):=by
 have h1:=(h.alloc (.cells z.cells.toArray 36)).p1;obtain⟨B,hB⟩:=aC (w.heap.size);obtain⟨w1,hw1⟩:=aC (w.alloc (.cells z.cells.toArray 36));rw[←hB,←hw1] at h1;have HB:=ah (aH hB hw1);have hld:=iq h1.p1;obtain⟨X,hX⟩:=aC (sep (blk B (.cells z.cells.toArray 36 (0,0))) A);have HXP:Hid (∀w' J Y,Sat W w' (sep Y (sep (kn J) X))→Sat W w' (sep (blk B (.cells z.cells.toArray 36 (0,0))) (sep Y (sep (kn J) A)))):=ah fun w' J Y h'=>by rw[hX] at h';simpa only[aA,au,aj] using h'
 have HXQ:Hid (∀w' J,Sat W w' (sep (kn J) X)→Sat W w' (sep (blk B (.cells z.cells.toArray 36 (0,0))) (sep (kn J) A))):=ah fun w' J h'=>by rw[hX] at h';simpa only[aA,au,aj] using h'
 have h1':Sat W w1 (sep (kn I) X):=by rw[hX];simpa only[aA,au,aj] using h1
 obtain⟨rv,dQ⟩:∃y:Int,y=if bC x=true then 0 else 1:=⟨_,rfl⟩
 obtain⟨E,hEE⟩:=aC (iI x);obtain⟨F,hF⟩:=aC (L6 x);have IW:Hid ((rv=0∧E=F)∨(rv=1∧E=[])):=ah (by
  rw[dQ,hEE,hF];unfold iI;by_cases hv:bC x=true
  ·rw[if_pos hv,if_pos hv];exact .inl ⟨rfl,rfl⟩
  ·rw[if_neg hv,if_neg hv];exact .inr ⟨rfl,rfl⟩)
 have Dk:Hid (∀w' A',Sat W w' (sep (kn I) A')→Calls Tryz.prog 18 #[.agg z.cells.toArray] w' fun e w''=>∃J,e=.returned (.int .i64 rv)∧Mem.le I J∧Sat W w'' (sep (kn J) A')):=ah fun w' A' h'=>by rw[dQ];exact Kr z x hA hz h'
 obtain⟨te,hte⟩:=aC (FT x.td x.tc);obtain⟨T,hT⟩:=aC (jV x.td x.tc);obtain⟨fe,hfe⟩:=aC (kQ x.fx);obtain⟨G,hG⟩:=aC (gK x.fx);obtain⟨ce,hce⟩:=aC (qQ x.cl);obtain⟨C,hC⟩:=aC (gX x.cl);have HCT:Hid (∀w' A' J,Mem.le I J→Sat W w' (sep (kn J) A')→Calls Tryz.prog 81 #[.agg #[.slice z.td.a z.td.n z.td.c,.slice z.tc.a z.tc.n z.tc.c]] w' fun e w''=>∃(b:Option Addr) (m d:Nat) (J2:Mem),e=.returned (.tuple #[.slice b m d,.int .i64 te])∧Mem.le J J2∧bZ.rel J2 [.slice b m d] T∧Sat W w'' (sep (kn J2) A')):=ah fun w' A' J hl h'=>by
  rw[hte,hT];exact EW _ _ _ _ _ _ x.td x.tc ((rF.slice 4).mono hl hA.td) ((lM.slice 5).mono hl hA.tc) hz.td hz.tc hE.td hE.tc hE.lt hE.ltc h'
 have HCF:Hid (∀w' A' J,Mem.le I J→Sat W w' (sep (kn J) A')→Calls Tryz.prog 83 #[.agg #[.int .i64 z.fo,.int .i64 z.fn,.slice z.fi.a z.fi.n z.fi.c,.slice z.fk.a z.fk.n z.fk.c]] w' fun e w''=>∃(b:Option Addr) (m d:Nat) (J2:Mem),e=.returned (.tuple #[.slice b m d,.int .i64 fe])∧Mem.le J J2∧bZ.rel J2 [.slice b m d] G∧Sat W w'' (sep (kn J2) A')):=ah fun w' A' J hl h'=>by
  rw[hfe,hG];exact uV x.fx _ _ _ _ _ _ _ _ (rF.mono hl hA.fx) hz.fx hE.fx.b64 (by have:=hE.fx.bl;omega) h'
 have Cc:Hid (∀w' A' J,Mem.le I J→Sat W w' (sep (kn J) A')→Calls Tryz.prog 84 #[.slice z.cl.a z.cl.n z.cl.c] w' fun e w''=>∃(b:Option Addr) (m d:Nat) (J2:Mem),e=.returned (.tuple #[.slice b m d,.int .i64 ce])∧Mem.le J J2∧bZ.rel J2 [.slice b m d] C∧Sat W w'' (sep (kn J2) A')):=ah fun w' A' J hl h'=>by
  rw[hce,hC];exact uX _ _ _ x.cl ((lM.slice 5).mono hl hA.cl) hz.cl hE.cl hE.lcl h'
 obtain⟨L,hL⟩:=aC (gV x);have hLz:L=[z.k,z.d,z.n,z.f,z.o,z.p,z.q,z.u,z.m,z.sn,z.sd]:=by rw[hL,hA.k,hA.d,hA.n,hA.f,hA.o,hA.p,hA.q,hA.u,hA.m,hA.sn,hA.sd];rfl
 have Jl:∀r∈L,-9223372036854775808≤r∧r≤9223372036854775807:=by rw[hL];exact hE.n64
 obtain⟨V,hV⟩:∃V:Nat→List UInt8,V=fun j=>((L.take j).map PA.encI).flatten:=⟨_,rfl⟩
 have hV0:V 0=[]:=by rw[hV];simp
 have BM:∀j g,L[j]?=some g→V (j+1)=V j++PA.encI g:=fun j g hg=>by rw[hV];simp only;rw[IC hg]
 have hLl:L.length=11:=by rw[hL];rfl
 have BL:∀j,(V j).length≤10*j:=by
  intro j
  induction j with
  | zero=>rw[hV0];simp
  | succ j ih=>
   cases hg:L[j]? with
   | none=>rw[hV] at ih ⊢;simp only at ih ⊢;rw[List.take_add_one,hg];simp at ih ⊢;omega
   | some g=>
    rw[BM j g hg,dM];have:=eP (Jl g (mZ hg)).1 (Jl g (mZ hg)).2;omega
 obtain⟨K,hK⟩:=aC (iP x);obtain⟨Q,hQ⟩:=aC (uI x);have hFe:F=V 11++K++Q:=by rw[hF,hV,hK,hQ];simp only;rw[←hLl,List.take_length,hL];rfl
 have hFl:F.length≤1073741824:=by rw[hF];exact hE.lw
 have hTl:T.length≤268435456:=by rw[hT];exact nS hE.lt
 have hGl:G.length≤16777216:=by rw[hG];exact kU hE.fx.bl
 have hCl:C.length≤134217728:=by rw[hC];exact jr hE.lcl
 have hea:=(aJ hA.ea).1;have adz:=(aJ hA.ea).2.2;have hK1:z.k=0→K=encR T++PA.encI z.ea.n++lG x.ea:=fun h0=>by rw[hK,hT,hea];unfold iP;rw[if_pos (by rw[←hA.k];exact h0)]
 have hK2:¬z.k=0→z.k=19→K=encR G:=fun h0 h1=>by rw[hK,hG];unfold iP;rw[if_neg (by rw[←hA.k];exact h0),if_pos (by rw[←hA.k];exact h1)]
 have hK3:¬z.k=0→¬z.k=19→K=[]:=fun h0 h1=>by rw[hK];unfold iP;rw[if_neg (by rw[←hA.k];exact h0),if_neg (by rw[←hA.k];exact h1)]
 have hcn:=(aJ hA.cl).1;have ahA:=(aJ hA.cl).2.2;have hQ0:z.cl.n=0→Q=[]:=fun h0=>by rw[hQ];unfold uI;rw[if_pos (List.length_eq_zero_iff.1 (by rw[←hcn];exact h0))]
 have hQ1:z.cl.n≠0→Q=encR C:=fun h0=>by rw[hQ,hC];unfold uI;rw[if_neg (fun hh=>h0 (by rw[hcn,hh];rfl))]
 have HL:=ah (aH hLl (aH hLz Jl));have HV:=ah (aH hV0 (aH BM BL));have HK:=ah (aH hK1 (aH hK2 hK3));have HQ:=ah (aH hQ0 hQ1);have xw:=ah (aH hFe hFl);have HTL:=ah (aH hTl (aH hGl hCl));have UL:=ah (aH hA.ea (aH hE.ea hea));have H1:=ah h1';rw[←dQ,←hEE];obtain⟨Po,dS⟩:∃P:Ending→World→Prop,P=fun e w'=>∃(b:Option Addr) (m d:Nat) (J:Mem),e=.returned (.tuple #[.slice b m d,.int .i64 rv])∧Mem.le I J∧bZ.rel J [.slice b m d] E∧Sat W w' (sep (kn J) A):=⟨_,rfl⟩
 rw[←dS];have bK:=ah dS;clear hA hz hE h h1 h1' hB hw1 hX dQ hEE hF hte hT hfe hG hce hC hL hLz Jl hV hV0 BM hLl BL hK hQ hFe hFl hTl hGl hCl hea hK1 hK2 hK3 hcn hQ0 hQ1 dS;go_enter Tryz.func27,Tryz.ntmps27;go_upto_region 1 with fail;rw[←HB.out.1,←HB.out.2];go_wp2_with fail;refine (Dk.out _ _ H1.out).mono ?_;rintro e w2 ⟨J,rfl,hle,h2⟩;have h2':=HXQ.out _ _ h2;have k0:=(ay h2' 0 _ rfl).1;have k1:=(ay h2' 1 _ rfl).1;have k2:=(ay h2' 2 _ rfl).1;have k3:=(ay h2' 3 _ rfl).1;have k4:=(ay h2' 4 _ rfl).1;have k5:=(ay h2' 5 _ rfl).1;have k6:=(ay h2' 6 _ rfl).1;have k7:=(ay h2' 7 _ rfl).1;have k8:=(ay h2' 8 _ rfl).1;have k9:=(ay h2' 9 _ rfl).1;have k10:=(ay h2' 10 _ rfl).1;have H2:=ah h2;have HJ:=ah hle;clear h2 h2' hle hld H1 Dk;rcases IW.out with ⟨h0,hEF⟩|⟨h0,hEF⟩;case inr=>
  subst h0;have HEF:=ah hEF;have HF:=ah (HXQ.out _ _ H2.out).drop;clear hEF k0 k1 k2 k3 k4 k5 k6 k7 k8 k9 k10 H2;go_wp2;rw[bK.out];exact⟨none,0,0,J,rfl,HJ.out,by rw[HEF.out];exact jq J,HF.out⟩
 case inl=>
 subst h0;have HEF:=ah hEF;clear hEF IW;have hbs:=VR w2 z.k z.d z.n z.f z.o z.p z.q z.u z.m z.sn z.sd;have hA2:=H2.out.alloc (.cells #[.int .i64 z.k,.int .i64 z.d,.int .i64 z.n,.int .i64 z.f,.int .i64 z.o,.int .i64 z.p,.int .i64 z.q,.int .i64 z.u,.int .i64 z.m,.int .i64 z.sn,.int .i64 z.sd] 3);obtain⟨N,hN⟩:=aC (w2.heap.size);obtain⟨w3,hw3⟩:=aC (w2.alloc (.cells #[.int .i64 z.k,.int .i64 z.d,.int .i64 z.n,.int .i64 z.f,.int .i64 z.o,.int .i64 z.p,.int .i64 z.q,.int .i64 z.u,.int .i64 z.m,.int .i64 z.sn,.int .i64 z.sd] 3));rw[←hN,←hw3] at hbs hA2;obtain⟨Y,hY⟩:=aC (sep (blk N (.cells #[.int .i64 z.k,.int .i64 z.d,.int .i64 z.n,.int .i64 z.f,.int .i64 z.o,.int .i64 z.p,.int .i64 z.q,.int .i64 z.u,.int .i64 z.m,.int .i64 z.sn,.int .i64 z.sd] 3 (0,0))) (sep (kn J) X));have HYD:Hid (∀w' Z,Sat W w' (sep Z Y)→Sat W w' (sep Z (sep (kn J) X))):=ah fun w' Z h'=>by
  rw[hY] at h';exact Sat.drop (by simpa only[aA,au,aj] using h':Sat W w' (sep (blk N (.cells #[.int .i64 z.k,.int .i64 z.d,.int .i64 z.n,.int .i64 z.f,.int .i64 z.o,.int .i64 z.p,.int .i64 z.q,.int .i64 z.u,.int .i64 z.m,.int .i64 z.sn,.int .i64 z.sd] 3 (0,0))) (sep Z (sep (kn J) X))))
 have HYC:Hid (∀w' Z k r,Sat W w' (sep Z Y)→L[k]?=some r→w'.cell? ⟨N,k,none⟩=some (.int .i64 r)):=ah fun w' Z k r h' hr=>by
  rw[hY] at h';rw[h'.p1.cell k];rw[HL.out.2.1] at hr
  match k,hr with
  | 0,hr|1,hr|2,hr|3,hr|4,hr|5,hr|6,hr|7,hr|8,hr|9,hr|10,hr=>simp at hr;subst hr;rfl
  | k+11,hr=>simp at hr
 rw[←hY] at hA2;have H3:=ah (hA2.fV 5 1);clear hN hA2 hY H2;go_upto_region 4 with fail
 try rw[←hw3]
 clear hbs hw3 k0 k1 k2 k3 k4 k5 k6 k7 k8 k9 k10;go_wp2_with fail;go_loopw [5,6] (fun ov kv wr=>∃(k:Nat) (a':Option Addr) (n' c':Nat) (vs:List Value),ov=.slice a' n' c'∧kv=.int .i64 k∧k≤11∧Hid (n'=(V k).length∧vs=(V k).map bv)∧Sat W wr (sep (aT 5 1 a' n' c' vs) Y)) (fun _ kv _=>11-(intOf kv).toNat)
 case atStart=>exact⟨0,none,0,0,[],rfl,rfl,by omega,ah ⟨by rw[HV.out.1];rfl,by rw[HV.out.1];rfl⟩,H3.out⟩
 case round=>
  obtain⟨k,a',n',c',vs',rfl,rfl,hk,HVV,hS⟩:=hrel;clear H3;by_cases hlt:k<11
  ·have hltz:(k:Int)<11:=by omega
   obtain⟨r,hr⟩:∃r,L[k]?=some r:=⟨_,iM (by have:=HL.out.1;omega)⟩
   have j0:=HYC.out _ _ k r hS hr;have Ej:=HL.out.2.2 r (mZ hr);have hb2:(PA.encI r).length≤10:=eP Ej.1 Ej.2;have hb1:n'≤110:=by rw[HVV.out.1];have:=HV.out.2.2 k;omega
   have acM:=ah Ej;obtain⟨m2,hm2⟩:=aC ((PA.encI r).length);obtain⟨us,hus⟩:=aC ((PA.encI r).map bv);rw[←hm2] at hb2;have HU:=ah (aH hm2 hus);have rP:Hid (V (k+1)=V k++PA.encI r∧k<11):=ah ⟨HV.out.2.1 k r hr,hlt⟩;have vw:=ah (aH hb1 hb2);have HS:=ah hS;clear hr Ej hb1 hb2 hm2 hus hS hlt hk;go_wp2_with fail;refine (iT r acM.out.1 acM.out.2 HS.out).mono ?_;rintro e w4 ⟨a2,c2,rfl,h3⟩;rw[←HU.out.1,←HU.out.2] at h3;rw[←HU.out.1];have jK:Hid (pX w4 a2 m2 us):=ah (by rw[HU.out.2,HU.out.1] at h3 ⊢;exact jC h3);have h4:=h3.drop;clear h3 HS j0;go_wp2_with (at_builtin;(refine aK rfl (.tmp 48) (.tmp 53) 51 rfl 5 1 1 (.int .u8 0) Tryz.underlying51 fB rfl rfl h4 rfl us jK.out.len jK.out.nil jK.out.src jK.out.one (by have:=vw.out;omega) (by have:=vw.out;unfold maxLen;omega) ?_))
   intro a4 c4 w5 h5;have H5:=ah h5;clear h4 h5 jK;go_wp2_with fail;go_roundw;case rel=>
    refine⟨k+1,a4,n'+m2,c4,_,rfl,by go_num,by have:=rP.out.2;omega,ah ⟨?_,?_⟩,H5.out⟩
    ·rw[rP.out.1,dM,HVV.out.1,HU.out.1]
    ·rw[rP.out.1,qy,HVV.out.2,HU.out.2]
   case measure=>simp[intOf];have:=rP.out.2;omega
  ·obtain rfl:k=11:=by omega
   have hS2:=HYD.out _ _ hS;have hp:=HXP.out _ _ _ hS2;have k0:=(ay hp 0 _ rfl).1;have k11:=(ay hp 11 _ rfl).1;have k12:=(ay hp 12 _ rfl).1;have k15:=(ay hp 15 _ rfl).1;have k16:=(ay hp 16 _ rfl).1;have k17:=(ay hp 17 _ rfl).1;have k18:=(ay hp 18 _ rfl).1;have HS:=ah hS2;obtain⟨P1,hP1⟩:=aC (V 11);have pK:Hid (n'=P1.length∧vs'=P1.map bv∧F=P1++K++Q∧P1.length+K.length+Q.length≤1073741824):=ah (by
    have h1:=xw.out.1;have h2:=xw.out.2;rw[←hP1] at h1;refine⟨by rw[hP1];exact HVV.out.1,by rw[hP1];exact HVV.out.2,h1,?_⟩;rw[h1,dM,dM] at h2;exact h2)
   have hltz:¬((11:Nat):Int)<11:=by omega
   clear hS hS2 hp hlt hk HVV hP1 HYC HYD HV xw;go_upto_block 2 with fail;obtain⟨b0,hb0⟩:∃b,(z.k==0)=b:=⟨_,rfl⟩
   obtain⟨b19,abq⟩:∃b,(z.k==19)=b:=⟨_,rfl⟩
   have HB0:Hid ((b0=true→z.k=0)∧(b0=false→¬z.k=0)∧(b19=true→z.k=19)∧(b19=false→¬z.k=19)):=ah (by rw[←hb0,←abq];simp);go_cut [5] from 57 to 111 (fun ov wx=>∃(a2:Option Addr) (n2 c2:Nat) (vs2:List Value) (J2:Mem),ov=.slice a2 n2 c2∧Hid (n2=P1.length+K.length∧vs2=(P1++K).map bv∧Mem.le I J2)∧Sat W wx (sep (aT 5 1 a2 n2 c2 vs2) (sep (kn J2) X)))
   case first=>
    as_aux_lemma=>
    cases b0 with
    | true=>
     have HK1:=ah (HK.out.1 (HB0.out.1 rfl));clear k15 k16 k17 k18 abq;have hS3:Sat W wr (sep (kn J) (sep (aT 5 1 a' n' c' vs') X)):=by have:=HS.out;simpa only[aA,au,aj] using this
     have KG:=ah hS3;clear hS3 HS;go_wp2_with fail;refine (HCT.out _ _ _ HJ.out KG.out).mono ?_;rintro e w4 ⟨b4,m4,d4,J4,rfl,jE,hr4,h4⟩;have YA:=ah (aH jE hr4);have H4:=ah h4;clear h4 jE hr4 HCT k0 k11 k12 KG;go_upto_region 12 with fail;go_wp2_with fail;refine (og (.slice b4 m4 d4) T H4.out YA.out.2 (by have:=HTL.out.1;omega)).mono ?_;rintro e w5 ⟨a5,c5,rfl,h5⟩;obtain⟨m2,hm2⟩:=aC ((encR T).length);obtain⟨v2,hv2⟩:=aC ((encR T).map bv);rw[←hm2,←hv2] at h5;rw[←hm2];have tu:=ah (aH hm2 hv2);have jK:Hid (pX w5 a5 m2 v2):=ah (by rw[hv2,hm2] at h5 ⊢;exact jC h5);have h6:Sat W w5 (sep (aT 5 1 a' n' c' vs') (sep (kn J4) X)):=by have:=h5.drop;simpa only[aA,au,aj] using this
     have hbd1:n'+m2≤1073741824:=by
      have h1:=pK.out;rw[HK1.out,dM,dM,←hm2] at h1;omega
     have IV:=ah hbd1;clear h5 H4 hm2 hv2 hbd1;go_wp2_with (at_builtin;(refine aK rfl (.tmp 65) (.tmp 67) 51 rfl 5 1 1 (.int .u8 0) Tryz.underlying51 fB rfl rfl h6 rfl v2 jK.out.len jK.out.nil jK.out.src jK.out.one (by have:=IV.out;omega) (by have:=IV.out;unfold maxLen;omega) ?_))
     intro a7 c7 w7 h7;have H7:=ah h7;have k14:=(ay (HXP.out _ _ _ h7) 14 _ rfl).1;clear h6 h7 jK;go_upto_region 13 with fail;go_wp2_with fail;have hbn:(z.ea.n:Int)≤9223372036854775807:=adz;refine (iT (z.ea.n:Int) (by omega) hbn H7.out).mono ?_;rintro e w8 ⟨a8,c8,rfl,h8⟩;obtain⟨m8,hm8⟩:=aC ((PA.encI z.ea.n).length);obtain⟨v8,TV⟩:=aC ((PA.encI z.ea.n).map bv);rw[←hm8,←TV] at h8;rw[←hm8];have HM8:=ah (aH hm8 TV);have jK:Hid (pX w8 a8 m8 v8):=ah (by rw[TV,hm8] at h8 ⊢;exact jC h8);have h9:=h8.drop;have hbd2:n'+m2+m8≤1073741824:=by
      have h1:=pK.out;rw[HK1.out,dM,dM,←tu.out.1,←hm8] at h1;omega
     have acw:=ah hbd2;clear h8 hm8 TV H7 hbd2 k14 IV;go_wp2_with (at_builtin;(refine aK rfl (.tmp 69) (.tmp 73) 51 rfl 5 1 1 (.int .u8 0) Tryz.underlying51 fB rfl rfl h9 rfl v8 jK.out.len jK.out.nil jK.out.src jK.out.one (by have:=acw.out;omega) (by have:=acw.out;unfold maxLen;omega) ?_))
     intro a10 c10 w10 h10;have KD:=ah h10;clear h9 h10 jK;obtain⟨U,hU⟩:∃U:Nat→List UInt8,U=fun j=>P1++encR T++PA.encI z.ea.n++lG (x.ea.take j):=⟨_,rfl⟩
     have hU0:U 0=P1++encR T++PA.encI z.ea.n:=by rw[hU];simp[lG]
     have hUs:∀j g,x.ea[j]?=some g→U (j+1)=U j++PA.encI g.file++PA.encI g.day:=fun j g hg=>by rw[hU];simp only;unfold lG;rw[nT pY hg];unfold pY;simp only[kZ]
     have hUe:U z.ea.n=P1++K:=by rw[hU,HK1.out];simp only;rw[UL.out.2.2,List.take_length];simp only[kZ]
     have hUl:∀j,(U j).length≤1073741824:=fun j=>by
      have h1:=pK.out;rw[HK1.out] at h1;rw[hU];simp only[dM] at h1 ⊢;have h2:=vN pY x.ea j;unfold lG at h1 ⊢;omega
     have HU:=ah (aH hU0 (aH hUs (aH hUe hUl)));have HUS:Hid (n'+m2+m8=(U 0).length∧vs'++(v2++v8)=(U 0).map bv):=ah (by
      rw[hU0,pK.out.1,pK.out.2.1,tu.out.1,tu.out.2,HM8.out.1,HM8.out.2];exact⟨by simp only[dM],by simp only[qy,kZ]⟩)
     obtain⟨ne,hne⟩:=aC (z.ea.n);have XZ:=ah hne;clear hU hU0 hUs hUe hUl;go_wp2_with fail;go_loopw [5,9] (fun ov kv wr=>∃(k:Nat) (a':Option Addr) (n' c':Nat) (vs:List Value),ov=.slice a' n' c'∧kv=.int .i64 k∧k≤ne∧Hid (n'=(U k).length∧vs=(U k).map bv)∧Sat W wr (sep (aT 5 1 a' n' c' vs) (sep (kn J4) X))) (fun _ kv _=>ne-(intOf kv).toNat)
     case atStart=>exact⟨0,a10,_,c10,_,rfl,rfl,by omega,HUS,KD.out⟩
     case round=>
      obtain⟨t,a'',n'',c'',vs'',rfl,rfl,hj,SS,hS⟩:=hrel;clear KD;have k14:=(ay (HXP.out _ _ _ hS) 14 _ rfl).1;rw[←hne] at k14;by_cases hlt:t<ne
      ·have hltz:(t:Int)<(ne:Int):=by omega
       obtain⟨g,hg⟩:∃g,x.ea[t]?=some g:=⟨_,iM (by rw[←UL.out.2.2,←hne];exact hlt)⟩
       obtain⟨b,o,hba,hcell⟩:=yH UL.out.1 hg;have adB:=UL.out.2.1 g (mZ hg);obtain⟨mf,hmf⟩:=aC ((PA.encI g.file).length);obtain⟨vf,hvf⟩:=aC ((PA.encI g.file).map bv);obtain⟨md,hmd⟩:=aC ((PA.encI g.day).length);obtain⟨vd,hvd⟩:=aC ((PA.encI g.day).map bv);have adw:n''+mf+md≤1073741824:=by
        have h1:=HU.out.2.2.2 (t+1);rw[HU.out.2.1 t g hg,dM,dM,←SS.out.1,←hmf,←hmd] at h1;exact h1
       have rP:Hid (U (t+1)=U t++PA.encI g.file++PA.encI g.day∧t<ne):=ah ⟨HU.out.2.1 t g hg,hlt⟩;have HC:=ah hcell;have jE:Mem.le I J4:=eG HJ.out YA.out.1;have HL4:=ah jE;obtain⟨j0,j1⟩:=hcell wr (sD jE hS.p1.ext);have HG:=ah adB;have QX:=ah (aH hmf (aH hvf (aH hmd hvd)));have Yy:=ah adw;rw[hba] at k14;have HS:=ah hS;have HBA:=ah hba;clear hg hcell adB hmf hvf hmd hvd adw jE hlt hj hS hba;go_upto_region 17 with fail;go_wp2_with fail;refine (iT g.file HG.out.1.1 HG.out.1.2 HS.out).mono ?_;rintro e w11 ⟨a11,c11,rfl,h11⟩;rw[←QX.out.1,←QX.out.2.1] at h11;rw[←QX.out.1];have jK:Hid (pX w11 a11 mf vf):=ah (by rw[QX.out.1,QX.out.2.1] at h11 ⊢;exact jC h11);have h12:=h11.drop;clear h11 HS k14 j0 j1;go_wp2_with (at_builtin;(refine aK rfl (.tmp 82) (.tmp 89) 51 rfl 5 1 1 (.int .u8 0) Tryz.underlying51 fB rfl rfl h12 rfl vf jK.out.len jK.out.nil jK.out.src jK.out.one (by have:=Yy.out;omega) (by have:=Yy.out;unfold maxLen;omega) ?_))
       intro GV c13 Yt h13;have XQ:=ah h13;have k14:=(ay (HXP.out _ _ _ h13) 14 _ rfl).1;rw[←hne,HBA.out] at k14;obtain⟨j0,j1⟩:=HC.out Yt (sD HL4.out h13.p1.ext);clear h12 h13 jK;go_upto_region 18 with fail;go_wp2_with fail;refine (iT g.day HG.out.2.1 HG.out.2.2 XQ.out).mono ?_;rintro e w14 ⟨F5,c14,rfl,wG⟩;rw[←QX.out.2.2.1,←QX.out.2.2.2] at wG;rw[←QX.out.2.2.1];have jK:Hid (pX w14 F5 md vd):=ah (by rw[QX.out.2.2.1,QX.out.2.2.2] at wG ⊢;exact jC wG);have h15:=wG.drop;clear wG XQ k14 j0 j1;go_wp2_with (at_builtin;(refine aK rfl (.tmp 91) (.tmp 98) 51 rfl 5 1 1 (.int .u8 0) Tryz.underlying51 fB rfl rfl h15 rfl vd jK.out.len jK.out.nil jK.out.src jK.out.one (by have:=Yy.out;omega) (by have:=Yy.out;unfold maxLen;omega) ?_))
       intro a16 c16 w16 h16;have SL:=ah h16;clear h15 h16 jK;go_wp2_with fail;go_roundw;case rel=>
        refine⟨t+1,a16,n''+mf+md,c16,_,rfl,by go_num,by have:=rP.out.2;omega,ah ⟨?_,?_⟩,SL.out⟩
        ·rw[rP.out.1,dM,dM,SS.out.1,QX.out.1,QX.out.2.2.1]
        ·rw[rP.out.1,qy,qy,SS.out.2,QX.out.2.1,QX.out.2.2.2,kZ]
       case measure=>simp[intOf];have:=rP.out.2;omega
      ·obtain rfl:t=ne:=by omega
       have HF:Hid (n''=P1.length+K.length∧vs''=(P1++K).map bv):=ah (by
        have h1:=HU.out.2.2.1;rw[←XZ.out] at h1;rw[←dM,←h1];exact SS.out)
       have HS:=ah hS;clear hS hlt hj SS;go_wp2;go_meet;case rel=>exact⟨a'',n'',c'',vs'',J4,rfl,ah ⟨HF.out.1,HF.out.2,eG HJ.out YA.out.1⟩,HS.out⟩
    | false=>
     cases b19 with
     | true=>
      have HK2:=ah (HK.out.2.1 (HB0.out.2.1 rfl) (HB0.out.2.2.1 rfl));clear k11 k12;have hS3:Sat W wr (sep (kn J) (sep (aT 5 1 a' n' c' vs') X)):=by have:=HS.out;simpa only[aA,au,aj] using this
      have KG:=ah hS3;clear hS3 HS;go_wp2_with fail;refine (HCF.out _ _ _ HJ.out KG.out).mono ?_;rintro e w4 ⟨b4,m4,d4,J4,rfl,jE,hr4,h4⟩;have YA:=ah (aH jE hr4);have H4:=ah h4;clear h4 jE hr4 HCF k0 k15 k16 k17 k18 KG;go_upto_region 21 with fail;go_wp2_with fail;refine (og (.slice b4 m4 d4) G H4.out YA.out.2 (by have:=HTL.out.2.1;omega)).mono ?_;rintro e w5 ⟨a5,c5,rfl,h5⟩;obtain⟨m2,hm2⟩:=aC ((encR G).length);obtain⟨v2,hv2⟩:=aC ((encR G).map bv);rw[←hm2,←hv2] at h5;rw[←hm2];have tu:=ah (aH hm2 hv2);have jK:Hid (pX w5 a5 m2 v2):=ah (by rw[hv2,hm2] at h5 ⊢;exact jC h5);have h6:Sat W w5 (sep (aT 5 1 a' n' c' vs') (sep (kn J4) X)):=by have:=h5.drop;simpa only[aA,au,aj] using this
      have hbd1:n'+m2≤1073741824:=by
       have h1:=pK.out;rw[HK2.out,←hm2] at h1;omega
      have IV:=ah hbd1;clear h5 H4 hm2 hv2 hbd1;go_wp2_with (at_builtin;(refine aK rfl (.tmp 108) (.tmp 110) 51 rfl 5 1 1 (.int .u8 0) Tryz.underlying51 fB rfl rfl h6 rfl v2 jK.out.len jK.out.nil jK.out.src jK.out.one (by have:=IV.out;omega) (by have:=IV.out;unfold maxLen;omega) ?_))
      intro a7 c7 w7 h7;have H7:=ah h7;clear h6 h7 jK;go_wp2;go_meet;case rel=>exact⟨a7,n'+m2,c7,_,J4,rfl,ah ⟨by rw[pK.out.1,tu.out.1,HK2.out],by rw[pK.out.2.1,tu.out.2,HK2.out,qy],eG HJ.out YA.out.1⟩,H7.out⟩
     | false=>
      have HK3:=ah (HK.out.2.2 (HB0.out.2.1 rfl) (HB0.out.2.2.2 rfl));clear k11 k12 k15 k16 k17 k18;go_wp2;go_meet;case rel=>exact⟨a',n',c',vs',J,rfl,ah ⟨by rw[pK.out.1,HK3.out];simp,by rw[pK.out.2.1,HK3.out,List.append_nil],HJ.out⟩,HS.out⟩
   clear k0 k11 k12 k15 k16 k17 k18 hb0 abq HB0 HS;obtain⟨a2,n2,c2,vs2,J2,rfl,ZU,h22⟩:=hcut;have k13:=(ay (HXP.out _ _ _ h22) 13 _ rfl).1;by_cases hc0:z.cl.n=0
   ·have hc1:¬(0:Int)<(z.cl.n:Int):=by omega
    have HQ0:=ah (HQ.out.1 hc0);have h23:Sat W wc (sep (aT 5 1 a2 n2 c2 (F.map bv)) (sep (kn J2) X)):=by
     rw[pK.out.2.2.1,HQ0.out,List.append_nil,←ZU.out.2.1];exact h22
    obtain⟨J3,hle3,hr3,h24⟩:=iK h23 (by rw[pK.out.2.2.1,HQ0.out,List.append_nil,ZU.out.1,dM]);have HF:=ah (aH hle3 (aH hr3 (HXQ.out _ _ h24).drop));clear h22 h23 h24 hle3 hr3 hc0;go_wp2;rw[bK.out];exact⟨a2,n2,c2,J3,rfl,eG ZU.out.2.2 HF.out.1,by rw[HEF.out];exact HF.out.2.1,HF.out.2.2⟩
   ·have hc1:(0:Int)<(z.cl.n:Int):=by omega
    have HQ1:=ah (HQ.out.2 hc0);have h23:Sat W wc (sep (kn J2) (sep (aT 5 1 a2 n2 c2 vs2) X)):=dI h22;have H23:=ah h23;clear h22 h23 hc0;go_wp2_with fail;refine (Cc.out _ _ _ ZU.out.2.2 H23.out).mono ?_;rintro e w4 ⟨b4,m4,d4,J4,rfl,jE,hr4,h4⟩;have YA:=ah (aH jE hr4);have H4:=ah h4;clear h4 jE hr4 Cc k13 H23 hc1;go_upto_region 24 with fail;go_wp2_with fail;refine (og (.slice b4 m4 d4) C H4.out YA.out.2 (by have:=HTL.out.2.2;omega)).mono ?_;rintro e w5 ⟨a5,c5,rfl,h5⟩;obtain⟨m2,hm2⟩:=aC ((encR C).length);obtain⟨v2,hv2⟩:=aC ((encR C).map bv);rw[←hm2,←hv2] at h5;rw[←hm2];have tu:=ah (aH hm2 hv2);have jK:Hid (pX w5 a5 m2 v2):=ah (by rw[hv2,hm2] at h5 ⊢;exact jC h5);have h6:Sat W w5 (sep (aT 5 1 a2 n2 c2 vs2) (sep (kn J4) X)):=by have:=h5.drop;simpa only[aA,au,aj] using this
    have hbd1:n2+m2≤1073741824:=by
     have h1:=pK.out.2.2.2;have h2:=ZU.out.1;rw[HQ1.out,←hm2] at h1;omega
    have IV:=ah hbd1;clear h5 H4 hm2 hv2 hbd1;go_wp2_with (at_builtin;(refine aK rfl (.tmp 122) (.tmp 124) 51 rfl 5 1 1 (.int .u8 0) Tryz.underlying51 fB rfl rfl h6 rfl v2 jK.out.len jK.out.nil jK.out.src jK.out.one (by have:=IV.out;omega) (by have:=IV.out;unfold maxLen;omega) ?_))
    intro a7 c7 w7 h7;have h23:Sat W w7 (sep (aT 5 1 a7 (n2+m2) c7 (F.map bv)) (sep (kn J4) X)):=by
     rw[pK.out.2.2.1,HQ1.out,qy,←ZU.out.2.1,←tu.out.2];exact h7
    obtain⟨J3,hle3,hr3,h24⟩:=iK h23 (by rw[pK.out.2.2.1,HQ1.out,dM,dM,ZU.out.1,tu.out.1]);have HF:=ah (aH hle3 (aH hr3 (HXQ.out _ _ h24).drop));clear h6 h7 h23 h24 hle3 hr3 jK;go_wp2;rw[bK.out];exact⟨a7,n2+m2,c7,J3,rfl,eG ZU.out.2.2 (eG YA.out.1 HF.out.1),by rw[HEF.out];exact HF.out.2.1,HF.out.2.2⟩
end Go.Proofs.YthfmaclnccdcbaaGreatDoor

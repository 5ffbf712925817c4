/- Part of a proof. -/
import Derived.Test.YtgicfogmdfdjmaaGreatDoorGTitleHolds34
namespace PA
open Go Go.RowKit
theorem Rk {e:Int→List UInt8} {l:List Int} {j:Nat} {g:Int} (h:l[j]?=some g):((l.take (j+1)).map e).flatten=((l.take j).map e).flatten++e g:=by
 rw[List.take_add_one,h];simp
end PA
namespace Go.Proofs.YtgicfogmdfdjmaaGreatDoor
open Go.RowKit PA
def ZF (p:Array (Nat×Value)):Sem Value:=Instr.buildSlice 22 11 p
theorem sJ (p:Array (Nat×Value)):Instr.buildSlice 22 11 p=ZF p:=rfl
theorem bs_i11 (w:World) (a b c d e f g h i j k:Int):(ZF #[(0,.int .i64 a),(1,.int .i64 b),(2,.int .i64 c),(3,.int .i64 d),(4,.int .i64 e),(5,.int .i64 f),(6,.int .i64 g),(7,.int .i64 h),(8,.int .i64 i),(9,.int .i64 j),(10,.int .i64 k)]).run Tryz.prog w=.ok (.slice (some ⟨w.heap.size,0,none⟩) 11 11) (w.alloc (.cells #[.int .i64 a,.int .i64 b,.int .i64 c,.int .i64 d,.int .i64 e,.int .i64 f,.int .i64 g,.int .i64 h,.int .i64 i,.int .i64 j,.int .i64 k] 3)):=by
 obtain⟨i,h1,h2,h3,h4⟩:=info_parts su
 exact run_buildSlice w 22 3 11 _ _ i _ Tryz.underlying22 h1 h2 (by rw[h3];omega) (by rw[h3];omega) (by rw[h3];kernel_rfl)
attribute [local go_sem ↓] bQ bZ aT sJ
set_option maxRecDepth 100000 in
set_option maxHeartbeats 16000000 in
theorem uI {W w:World} {A:aG} {I:Mem} (z:Ac) (x:Pa) (hA:oM I z x) (hz:VD x) (hE:zx x) (h:Sat W w (sep (kn I) A)):
 Calls Tryz.prog 72 #[.agg z.cells.toArray] w fun e w'=>∃(b:Option Addr) (m d:Nat) (J:Mem),e=.returned (.tuple #[.slice b m d,.int .i64 (if yB x=true then 0 else 1)])∧Mem.le I J∧fB.rel J [.slice b m d] (Iw x)∧Sat W w' (sep (kn J) A):=by
 have h1:=(h.alloc (.cells z.cells.toArray 67)).p1
 obtain⟨B,hB⟩:=aC (w.heap.size)
 obtain⟨w1,hw1⟩:=aC (w.alloc (.cells z.cells.toArray 67))
 rw[←hB,←hw1] at h1
 have HB:=ah (And.intro hB hw1)
 have hld:=iD h1.p1
 obtain⟨X,hX⟩:=aC (sep (blk B (.cells z.cells.toArray 67 (0,0))) A)
 have HXP:Hid (∀w' J Y,Sat W w' (sep Y (sep (kn J) X))→Sat W w' (sep (blk B (.cells z.cells.toArray 67 (0,0))) (sep Y (sep (kn J) A)))):=ah fun w' J Y h'=>by rw[hX] at h';simpa only[ay,au,aj] using h'
 have HXQ:Hid (∀w' J,Sat W w' (sep (kn J) X)→Sat W w' (sep (blk B (.cells z.cells.toArray 67 (0,0))) (sep (kn J) A))):=ah fun w' J h'=>by rw[hX] at h';simpa only[ay,au,aj] using h'
 have h1':Sat W w1 (sep (kn I) X):=by rw[hX];simpa only[ay,au,aj] using h1
 obtain⟨rv,fQ⟩:∃y:Int,y=if yB x=true then 0 else 1:=⟨_,rfl⟩
 obtain⟨E,hEE⟩:=aC (Iw x)
 obtain⟨F,hF⟩:=aC (VN x)
 have VL:Hid ((rv=0∧E=F)∨(rv=1∧E=[])):=ah (by
  rw[fQ,hEE,hF];unfold Iw
  by_cases hv:yB x=true
  ·rw[if_pos hv,if_pos hv];exact .inl ⟨rfl,rfl⟩
  ·rw[if_neg hv,if_neg hv];exact .inr ⟨rfl,rfl⟩)
 have Jj:Hid (∀w' A',Sat W w' (sep (kn I) A')→Calls Tryz.prog 92 #[.agg z.cells.toArray] w' fun e w''=>∃J,e=.returned (.int .i64 rv)∧Mem.le I J∧Sat W w'' (sep (kn J) A')):=ah fun w' A' h'=>by rw[fQ];exact Iq z x hA hz h'
 obtain⟨te,hte⟩:=aC (WM x.td x.tc)
 obtain⟨T,hT⟩:=aC (oI x.td x.tc)
 obtain⟨fe,hfe⟩:=aC (qO x.fx)
 obtain⟨G,hG⟩:=aC (lF x.fx)
 obtain⟨ce,hce⟩:=aC (Cj x.cl)
 obtain⟨C,hC⟩:=aC (kW x.cl)
 have HCT:Hid (∀w' A' J,Mem.le I J→Sat W w' (sep (kn J) A')→Calls Tryz.prog 94 #[.agg #[.slice z.td.a z.td.n z.td.c,.slice z.tc.a z.tc.n z.tc.c]] w' fun e w''=>∃(b:Option Addr) (m d:Nat) (J2:Mem),e=.returned (.tuple #[.slice b m d,.int .i64 te])∧Mem.le J J2∧fB.rel J2 [.slice b m d] T∧Sat W w'' (sep (kn J2) A')):=ah fun w' A' J hl h'=>by
  rw[hte,hT];exact Dn _ _ _ _ _ _ x.td x.tc ((rF.slice 4).mono hl hA.td) ((oz.slice 5).mono hl hA.tc) hz.td hz.tc hE.td hE.tc hE.lt hE.ltc h'
 have HCF:Hid (∀w' A' J,Mem.le I J→Sat W w' (sep (kn J) A')→Calls Tryz.prog 96 #[.agg #[.int .i64 z.fo,.int .i64 z.fn,.slice z.fi.a z.fi.n z.fi.c,.slice z.fk.a z.fk.n z.fk.c]] w' fun e w''=>∃(b:Option Addr) (m d:Nat) (J2:Mem),e=.returned (.tuple #[.slice b m d,.int .i64 fe])∧Mem.le J J2∧fB.rel J2 [.slice b m d] G∧Sat W w'' (sep (kn J2) A')):=ah fun w' A' J hl h'=>by
  rw[hfe,hG];exact sD x.fx _ _ _ _ _ _ _ _ (rF.mono hl hA.fx) hz.fx hE.fx.b64 (by have:=hE.fx.bl;omega) h'
 have DK:Hid (∀w' A' J,Mem.le I J→Sat W w' (sep (kn J) A')→Calls Tryz.prog 97 #[.slice z.cl.a z.cl.n z.cl.c] w' fun e w''=>∃(b:Option Addr) (m d:Nat) (J2:Mem),e=.returned (.tuple #[.slice b m d,.int .i64 ce])∧Mem.le J J2∧fB.rel J2 [.slice b m d] C∧Sat W w'' (sep (kn J2) A')):=ah fun w' A' J hl h'=>by
  rw[hce,hC];exact sH _ _ _ x.cl ((oz.slice 5).mono hl hA.cl) hz.cl hE.cl hE.lcl h'
 obtain⟨L,hL⟩:=aC (iE x)
 have hLz:L=[z.k,z.d,z.n,z.f,z.o,z.p,z.q,z.u,z.m,z.sn,z.sd]:=by rw[hL,hA.k,hA.d,hA.n,hA.f,hA.o,hA.p,hA.q,hA.u,hA.m,hA.sn,hA.sd];rfl
 have YL:∀r∈L,-9223372036854775808≤r∧r≤9223372036854775807:=by rw[hL];exact hE.n64
 obtain⟨V,hV⟩:∃V:Nat→List UInt8,V=fun j=>((L.take j).map PA.encI).flatten:=⟨_,rfl⟩
 have hV0:V 0=[]:=by rw[hV];simp
 have Sj:∀j g,L[j]?=some g→V (j+1)=V j++PA.encI g:=fun j g hg=>by rw[hV];simp only;rw[Rk hg]
 have hLl:L.length=11:=by rw[hL];rfl
 have VJ:∀j,(V j).length≤10*j:=by
  intro j
  induction j with
  | zero=>rw[hV0];simp
  | succ j ih=>
   cases hg:L[j]? with
   | none=>rw[hV] at ih ⊢;simp only at ih ⊢;rw[List.take_add_one,hg];simp at ih ⊢;omega
   | some g=>
    rw[Sj j g hg,dI]
    have:=jX (YL g (List.mem_of_getElem? hg)).1 (YL g (List.mem_of_getElem? hg)).2
    omega
 obtain⟨K,hK⟩:=aC (wW x)
 obtain⟨Q,hQ⟩:=aC (Dl x)
 have hFe:F=V 11++K++Q:=by rw[hF,hV,hK,hQ];simp only;rw[←hLl,List.take_length,hL];rfl
 have hFl:F.length≤1073741824:=by rw[hF];exact hE.lw
 have hTl:T.length≤268435456:=by rw[hT];exact yF hE.lt
 have hGl:G.length≤16777216:=by rw[hG];exact sG hE.fx.bl
 have hCl:C.length≤134217728:=by rw[hC];exact nJ hE.lcl
 have hea:=(aU hA.ea).1
 have acS:=(aU hA.ea).2.2
 have hK1:z.k=0→K=encR T++PA.encI z.ea.n++sF x.ea:=fun h0=>by rw[hK,hT,hea];unfold wW;rw[if_pos (by rw[←hA.k];exact h0)]
 have hK2:¬z.k=0→z.k=19→K=encR G:=fun h0 h1=>by rw[hK,hG];unfold wW;rw[if_neg (by rw[←hA.k];exact h0),if_pos (by rw[←hA.k];exact h1)]
 have hK3:¬z.k=0→¬z.k=19→K=[]:=fun h0 h1=>by rw[hK];unfold wW;rw[if_neg (by rw[←hA.k];exact h0),if_neg (by rw[←hA.k];exact h1)]
 have hcn:=(aU hA.cl).1
 have ahk:=(aU hA.cl).2.2
 have hQ0:z.cl.n=0→Q=[]:=fun h0=>by rw[hQ];unfold Dl;rw[if_pos (List.length_eq_zero_iff.1 (by rw[←hcn];exact h0))]
 have WU:z.cl.n≠0→Q=encR C:=fun h0=>by rw[hQ,hC];unfold Dl;rw[if_neg (fun hh=>h0 (by rw[hcn,hh];rfl))]
 have HL:=ah (And.intro hLl (And.intro hLz YL))
 have HV:=ah (And.intro hV0 (And.intro Sj VJ))
 have HK:=ah (And.intro hK1 (And.intro hK2 hK3))
 have HQ:=ah (And.intro hQ0 WU)
 have DL:=ah (And.intro hFe hFl)
 have HTL:=ah (And.intro hTl (And.intro hGl hCl))
 have WT:=ah (And.intro hA.ea (And.intro hE.ea hea))
 have H1:=ah h1'
 rw[←fQ,←hEE]
 obtain⟨Po,iU⟩:∃P:Ending→World→Prop,P=fun e w'=>∃(b:Option Addr) (m d:Nat) (J:Mem),e=.returned (.tuple #[.slice b m d,.int .i64 rv])∧Mem.le I J∧fB.rel J [.slice b m d] E∧Sat W w' (sep (kn J) A):=⟨_,rfl⟩
 rw[←iU]
 have dZ:=ah iU
 clear hA hz hE h h1 h1' hB hw1 hX fQ hEE hF hte hT hfe hG hce hC hL hLz YL hV hV0 Sj hLl VJ hK hQ hFe hFl hTl hGl hCl hea hK1 hK2 hK3 hcn hQ0 WU iU
 go_enter Tryz.func72,Tryz.ntmps72
 go_upto_region 1 with (fail)
 rw[←HB.out.1,←HB.out.2]
 go_wp2_with fail
 refine (Jj.out _ _ H1.out).mono ?_
 rintro e w2 ⟨J,rfl,hle,h2⟩
 have h2':=HXQ.out _ _ h2
 have k0:=(aB h2' 0 _ rfl).1
 have k1:=(aB h2' 1 _ rfl).1
 have k2:=(aB h2' 2 _ rfl).1
 have k3:=(aB h2' 3 _ rfl).1
 have k4:=(aB h2' 4 _ rfl).1
 have k5:=(aB h2' 5 _ rfl).1
 have k6:=(aB h2' 6 _ rfl).1
 have k7:=(aB h2' 7 _ rfl).1
 have k8:=(aB h2' 8 _ rfl).1
 have k9:=(aB h2' 9 _ rfl).1
 have k10:=(aB h2' 10 _ rfl).1
 have H2:=ah h2
 have HJ:=ah hle
 clear h2 h2' hle hld H1 Jj
 rcases VL.out with ⟨h0,hEF⟩|⟨h0,hEF⟩
 case inr=>
  subst h0
  have HEF:=ah hEF
  have HF:=ah (HXQ.out _ _ H2.out).drop
  clear hEF k0 k1 k2 k3 k4 k5 k6 k7 k8 k9 k10 H2
  go_wp2
  rw[dZ.out]
  exact⟨none,0,0,J,rfl,HJ.out,by rw[HEF.out];exact qg J,HF.out⟩
 case inl=>
 subst h0
 have HEF:=ah hEF
 clear hEF VL
 have hbs:=bs_i11 w2 z.k z.d z.n z.f z.o z.p z.q z.u z.m z.sn z.sd
 have hA2:=H2.out.alloc (.cells #[.int .i64 z.k,.int .i64 z.d,.int .i64 z.n,.int .i64 z.f,.int .i64 z.o,.int .i64 z.p,.int .i64 z.q,.int .i64 z.u,.int .i64 z.m,.int .i64 z.sn,.int .i64 z.sd] 3)
 obtain⟨N,hN⟩:=aC (w2.heap.size)
 obtain⟨w3,hw3⟩:=aC (w2.alloc (.cells #[.int .i64 z.k,.int .i64 z.d,.int .i64 z.n,.int .i64 z.f,.int .i64 z.o,.int .i64 z.p,.int .i64 z.q,.int .i64 z.u,.int .i64 z.m,.int .i64 z.sn,.int .i64 z.sd] 3))
 rw[←hN,←hw3] at hbs hA2
 obtain⟨Y,hY⟩:=aC (sep (blk N (.cells #[.int .i64 z.k,.int .i64 z.d,.int .i64 z.n,.int .i64 z.f,.int .i64 z.o,.int .i64 z.p,.int .i64 z.q,.int .i64 z.u,.int .i64 z.m,.int .i64 z.sn,.int .i64 z.sd] 3 (0,0))) (sep (kn J) X))
 have HYD:Hid (∀w' Z,Sat W w' (sep Z Y)→Sat W w' (sep Z (sep (kn J) X))):=ah fun w' Z h'=>by
  rw[hY] at h'
  exact Sat.drop (by simpa only[ay,au,aj] using h':Sat W w' (sep (blk N (.cells #[.int .i64 z.k,.int .i64 z.d,.int .i64 z.n,.int .i64 z.f,.int .i64 z.o,.int .i64 z.p,.int .i64 z.q,.int .i64 z.u,.int .i64 z.m,.int .i64 z.sn,.int .i64 z.sd] 3 (0,0))) (sep Z (sep (kn J) X))))
 have HYC:Hid (∀w' Z k r,Sat W w' (sep Z Y)→L[k]?=some r→w'.cell? ⟨N,k,none⟩=some (.int .i64 r)):=ah fun w' Z k r h' hr=>by
  rw[hY] at h'
  rw[h'.p1.cell k]
  rw[HL.out.2.1] at hr
  match k,hr with
  | 0,hr|1,hr|2,hr|3,hr|4,hr|5,hr|6,hr|7,hr|8,hr|9,hr|10,hr=>simp at hr;subst hr;rfl
  | k+11,hr=>simp at hr
 rw[←hY] at hA2
 have H3:=ah (hA2.cZ 5 1)
 clear hN hA2 hY H2
 go_upto_region 4 with (fail)
 try rw[←hw3]
 clear hbs hw3 k0 k1 k2 k3 k4 k5 k6 k7 k8 k9 k10
 go_wp2_with fail
 go_loopw [5,6] (fun ov kv wr=>∃(k:Nat) (a':Option Addr) (n' c':Nat) (vs:List Value),ov=.slice a' n' c'∧kv=.int .i64 k∧k≤11∧Hid (n'=(V k).length∧vs=(V k).map bv)∧Sat W wr (sep (aK 5 1 a' n' c' vs) Y)) (fun _ kv _=>11-(intOf kv).toNat)
 case atStart=>exact⟨0,none,0,0,[],rfl,rfl,by omega,ah ⟨by rw[HV.out.1];rfl,by rw[HV.out.1];rfl⟩,H3.out⟩
 case round=>
  obtain⟨k,a',n',c',vs',rfl,rfl,hk,HVV,hS⟩:=hrel
  clear H3
  by_cases hlt:k<11
  ·have hltz:(k:Int)<11:=by omega
   obtain⟨r,hr⟩:∃r,L[k]?=some r:=⟨_,List.getElem?_eq_getElem (by have:=HL.out.1;omega)⟩
   have j0:=HYC.out _ _ k r hS hr
   have Oj:=HL.out.2.2 r (List.mem_of_getElem? hr)
   have hb2:(PA.encI r).length≤10:=jX Oj.1 Oj.2
   have hb1:n'≤110:=by rw[HVV.out.1];have:=HV.out.2.2 k;omega
   have acU:=ah Oj
   obtain⟨m2,hm2⟩:=aC ((PA.encI r).length)
   obtain⟨us,hus⟩:=aC ((PA.encI r).map bv)
   rw[←hm2] at hb2
   have HU:=ah (And.intro hm2 hus)
   have oU:Hid (V (k+1)=V k++PA.encI r∧k<11):=ah ⟨HV.out.2.1 k r hr,hlt⟩
   have qL:=ah (And.intro hb1 hb2)
   have HS:=ah hS
   clear hr Oj hb1 hb2 hm2 hus hS hlt hk
   go_wp2_with fail
   refine (iy r acU.out.1 acU.out.2 HS.out).mono ?_
   rintro e w4 ⟨a2,c2,rfl,h3⟩
   rw[←HU.out.1,←HU.out.2] at h3
   rw[←HU.out.1]
   have iV:Hid (nZ w4 a2 m2 us):=ah (by rw[HU.out.2,HU.out.1] at h3 ⊢;exact jh h3)
   have h4:=h3.drop
   clear h3 HS j0
   go_wp2_with (at_builtin;(refine aJ rfl (.tmp 48) (.tmp 53) 129 rfl 5 1 1 (.int .u8 0) Tryz.underlying129 fJ rfl rfl h4 rfl us iV.out.len iV.out.nil iV.out.src iV.out.one (by have:=qL.out;omega) (by have:=qL.out;unfold maxLen;omega) ?_))
   intro a4 c4 w5 h5
   have H5:=ah h5
   clear h4 h5 iV
   go_wp2_with fail
   go_roundw
   case rel=>
    refine⟨k+1,a4,n'+m2,c4,_,rfl,by go_num,by have:=oU.out.2;omega,ah ⟨?_,?_⟩,H5.out⟩
    ·rw[oU.out.1,dI,HVV.out.1,HU.out.1]
    ·rw[oU.out.1,lS,HVV.out.2,HU.out.2]
   case measure=>simp[intOf];have:=oU.out.2;omega
  ·obtain rfl:k=11:=by omega
   have hS2:=HYD.out _ _ hS
   have hp:=HXP.out _ _ _ hS2
   have k0:=(aB hp 0 _ rfl).1
   have k11:=(aB hp 11 _ rfl).1
   have k12:=(aB hp 12 _ rfl).1
   have k15:=(aB hp 15 _ rfl).1
   have k16:=(aB hp 16 _ rfl).1
   have k17:=(aB hp 17 _ rfl).1
   have k18:=(aB hp 18 _ rfl).1
   have HS:=ah hS2
   obtain⟨P1,hP1⟩:=aC (V 11)
   have lU:Hid (n'=P1.length∧vs'=P1.map bv∧F=P1++K++Q∧P1.length+K.length+Q.length≤1073741824):=ah (by
    have h1:=DL.out.1
    have h2:=DL.out.2
    rw[←hP1] at h1
    refine⟨by rw[hP1];exact HVV.out.1,by rw[hP1];exact HVV.out.2,h1,?_⟩
    rw[h1,dI,dI] at h2;exact h2)
   have hltz:¬((11:Nat):Int)<11:=by omega
   clear hS hS2 hp hlt hk HVV hP1 HYC HYD HV DL
   go_upto_block 2 with (fail)
   obtain⟨b0,hb0⟩:∃b,(z.k==0)=b:=⟨_,rfl⟩
   obtain⟨b19,aa3⟩:∃b,(z.k==19)=b:=⟨_,rfl⟩
   have HB0:Hid ((b0=true→z.k=0)∧(b0=false→¬z.k=0)∧(b19=true→z.k=19)∧(b19=false→¬z.k=19)):=ah (by rw[←hb0,←aa3];simp)
   go_cut [5] from 57 to 111 (fun ov wx=>∃(a2:Option Addr) (n2 c2:Nat) (vs2:List Value) (J2:Mem),ov=.slice a2 n2 c2∧Hid (n2=P1.length+K.length∧vs2=(P1++K).map bv∧Mem.le I J2)∧Sat W wx (sep (aK 5 1 a2 n2 c2 vs2) (sep (kn J2) X)))
   case first=>
    as_aux_lemma=>
    cases b0 with
    | true=>
     have HK1:=ah (HK.out.1 (HB0.out.1 rfl))
     clear k15 k16 k17 k18 aa3
     have hS3:Sat W wr (sep (kn J) (sep (aK 5 1 a' n' c' vs') X)):=by have:=HS.out;simpa only[ay,au,aj] using this
     have EL:=ah hS3
     clear hS3 HS
     go_wp2_with fail
     refine (HCT.out _ _ _ HJ.out EL.out).mono ?_
     rintro e w4 ⟨b4,m4,d4,J4,rfl,zK,hr4,h4⟩
     have YM:=ah (And.intro zK hr4)
     have H4:=ah h4
     clear h4 zK hr4 HCT k0 k11 k12 EL
     go_upto_region 12 with (fail)
     go_wp2_with fail
     refine (mg (.slice b4 m4 d4) T H4.out YM.out.2 (by have:=HTL.out.1;omega)).mono ?_
     rintro e w5 ⟨a5,c5,rfl,h5⟩
     obtain⟨m2,hm2⟩:=aC ((encR T).length)
     obtain⟨v2,hv2⟩:=aC ((encR T).map bv)
     rw[←hm2,←hv2] at h5
     rw[←hm2]
     have qF:=ah (And.intro hm2 hv2)
     have iV:Hid (nZ w5 a5 m2 v2):=ah (by rw[hv2,hm2] at h5 ⊢;exact jh h5)
     have h6:Sat W w5 (sep (aK 5 1 a' n' c' vs') (sep (kn J4) X)):=by have:=h5.drop;simpa only[ay,au,aj] using this
     have hbd1:n'+m2≤1073741824:=by
      have h1:=lU.out
      rw[HK1.out,dI,dI,←hm2] at h1;omega
     have Iz:=ah hbd1
     clear h5 H4 hm2 hv2 hbd1
     go_wp2_with (at_builtin;(refine aJ rfl (.tmp 65) (.tmp 67) 129 rfl 5 1 1 (.int .u8 0) Tryz.underlying129 fJ rfl rfl h6 rfl v2 iV.out.len iV.out.nil iV.out.src iV.out.one (by have:=Iz.out;omega) (by have:=Iz.out;unfold maxLen;omega) ?_))
     intro a7 c7 w7 h7
     have H7:=ah h7
     have k14:=(aB (HXP.out _ _ _ h7) 14 _ rfl).1
     clear h6 h7 iV
     go_upto_region 13 with (fail)
     go_wp2_with fail
     have hbn:(z.ea.n:Int)≤9223372036854775807:=acS
     refine (iy (z.ea.n:Int) (by omega) hbn H7.out).mono ?_
     rintro e w8 ⟨a8,c8,rfl,h8⟩
     obtain⟨m8,hm8⟩:=aC ((PA.encI z.ea.n).length)
     obtain⟨v8,hv8⟩:=aC ((PA.encI z.ea.n).map bv)
     rw[←hm8,←hv8] at h8
     rw[←hm8]
     have HM8:=ah (And.intro hm8 hv8)
     have iV:Hid (nZ w8 a8 m8 v8):=ah (by rw[hv8,hm8] at h8 ⊢;exact jh h8)
     have h9:=h8.drop
     have hbd2:n'+m2+m8≤1073741824:=by
      have h1:=lU.out
      rw[HK1.out,dI,dI,←qF.out.1,←hm8] at h1;omega
     have acV:=ah hbd2
     clear h8 hm8 hv8 H7 hbd2 k14 Iz
     go_wp2_with (at_builtin;(refine aJ rfl (.tmp 69) (.tmp 73) 129 rfl 5 1 1 (.int .u8 0) Tryz.underlying129 fJ rfl rfl h9 rfl v8 iV.out.len iV.out.nil iV.out.src iV.out.one (by have:=acV.out;omega) (by have:=acV.out;unfold maxLen;omega) ?_))
     intro a10 c10 w10 h10
     have nO:=ah h10
     clear h9 h10 iV
     obtain⟨U,hU⟩:∃U:Nat→List UInt8,U=fun j=>P1++encR T++PA.encI z.ea.n++sF (x.ea.take j):=⟨_,rfl⟩
     have hU0:U 0=P1++encR T++PA.encI z.ea.n:=by rw[hU];simp[sF]
     have hUs:∀j g,x.ea[j]?=some g→U (j+1)=U j++PA.encI g.file++PA.encI g.day:=fun j g hg=>by rw[hU];simp only;unfold sF;rw[yE FX hg];unfold FX;simp only[List.append_assoc]
     have hUe:U z.ea.n=P1++K:=by rw[hU,HK1.out];simp only;rw[WT.out.2.2,List.take_length];simp only[List.append_assoc]
     have hUl:∀j,(U j).length≤1073741824:=fun j=>by
      have h1:=lU.out
      rw[HK1.out] at h1
      rw[hU];simp only[dI] at h1 ⊢
      have h2:=Iy FX x.ea j
      unfold sF at h1 ⊢;omega
     have HU:=ah (And.intro hU0 (And.intro hUs (And.intro hUe hUl)))
     have HUS:Hid (n'+m2+m8=(U 0).length∧vs'++(v2++v8)=(U 0).map bv):=ah (by
      rw[hU0,lU.out.1,lU.out.2.1,qF.out.1,qF.out.2,HM8.out.1,HM8.out.2]
      exact⟨by simp only[dI],by simp only[lS,List.append_assoc]⟩)
     obtain⟨ne,hne⟩:=aC (z.ea.n)
     have Zv:=ah hne
     clear hU hU0 hUs hUe hUl
     go_wp2_with fail
     go_loopw [5,9] (fun ov kv wr=>∃(k:Nat) (a':Option Addr) (n' c':Nat) (vs:List Value),ov=.slice a' n' c'∧kv=.int .i64 k∧k≤ne∧Hid (n'=(U k).length∧vs=(U k).map bv)∧Sat W wr (sep (aK 5 1 a' n' c' vs) (sep (kn J4) X))) (fun _ kv _=>ne-(intOf kv).toNat)
     case atStart=>exact⟨0,a10,_,c10,_,rfl,rfl,by omega,HUS,nO.out⟩
     case round=>
      obtain⟨t,a'',n'',c'',vs'',rfl,rfl,hj,HUU,hS⟩:=hrel
      clear nO
      have k14:=(aB (HXP.out _ _ _ hS) 14 _ rfl).1
      rw[←hne] at k14
      by_cases hlt:t<ne
      ·have hltz:(t:Int)<(ne:Int):=by omega
       obtain⟨g,hg⟩:∃g,x.ea[t]?=some g:=⟨_,List.getElem?_eq_getElem (by rw[←WT.out.2.2,←hne];exact hlt)⟩
       obtain⟨b,o,hba,hcell⟩:=Ip WT.out.1 hg
       have acX:=WT.out.2.1 g (List.mem_of_getElem? hg)
       obtain⟨mf,hmf⟩:=aC ((PA.encI g.file).length)
       obtain⟨vf,hvf⟩:=aC ((PA.encI g.file).map bv)
       obtain⟨md,hmd⟩:=aC ((PA.encI g.day).length)
       obtain⟨vd,hvd⟩:=aC ((PA.encI g.day).map bv)
       have acY:n''+mf+md≤1073741824:=by
        have h1:=HU.out.2.2.2 (t+1)
        rw[HU.out.2.1 t g hg,dI,dI,←HUU.out.1,←hmf,←hmd] at h1;exact h1
       have oU:Hid (U (t+1)=U t++PA.encI g.file++PA.encI g.day∧t<ne):=ah ⟨HU.out.2.1 t g hg,hlt⟩
       have HC:=ah hcell
       have zK:Mem.le I J4:=Mem.le_trans HJ.out YM.out.1
       have HL4:=ah zK
       obtain⟨j0,j1⟩:=hcell wr (iI zK hS.p1.ext)
       have HG:=ah acX
       have PD:=ah (And.intro hmf (And.intro hvf (And.intro hmd hvd)))
       have YN:=ah acY
       rw[hba] at k14
       have HS:=ah hS
       have HBA:=ah hba
       clear hg hcell acX hmf hvf hmd hvd acY zK hlt hj hS hba
       go_upto_region 17 with (fail)
       go_wp2_with fail
       refine (iy g.file HG.out.1.1 HG.out.1.2 HS.out).mono ?_
       rintro e LG ⟨a11,c11,rfl,h11⟩
       rw[←PD.out.1,←PD.out.2.1] at h11
       rw[←PD.out.1]
       have iV:Hid (nZ LG a11 mf vf):=ah (by rw[PD.out.1,PD.out.2.1] at h11 ⊢;exact jh h11)
       have h12:=h11.drop
       clear h11 HS k14 j0 j1
       go_wp2_with (at_builtin;(refine aJ rfl (.tmp 82) (.tmp 89) 129 rfl 5 1 1 (.int .u8 0) Tryz.underlying129 fJ rfl rfl h12 rfl vf iV.out.len iV.out.nil iV.out.src iV.out.one (by have:=YN.out;omega) (by have:=YN.out;unfold maxLen;omega) ?_))
       intro FW c13 Je h13
       have RX:=ah h13
       have k14:=(aB (HXP.out _ _ _ h13) 14 _ rfl).1
       rw[←hne,HBA.out] at k14
       obtain⟨j0,j1⟩:=HC.out Je (iI HL4.out h13.p1.ext)
       clear h12 h13 iV
       go_upto_region 18 with (fail)
       go_wp2_with fail
       refine (iy g.day HG.out.2.1 HG.out.2.2 RX.out).mono ?_
       rintro e ZY ⟨Ey,c14,rfl,DR⟩
       rw[←PD.out.2.2.1,←PD.out.2.2.2] at DR
       rw[←PD.out.2.2.1]
       have iV:Hid (nZ ZY Ey md vd):=ah (by rw[PD.out.2.2.1,PD.out.2.2.2] at DR ⊢;exact jh DR)
       have h15:=DR.drop
       clear DR RX k14 j0 j1
       go_wp2_with (at_builtin;(refine aJ rfl (.tmp 91) (.tmp 98) 129 rfl 5 1 1 (.int .u8 0) Tryz.underlying129 fJ rfl rfl h15 rfl vd iV.out.len iV.out.nil iV.out.src iV.out.one (by have:=YN.out;omega) (by have:=YN.out;unfold maxLen;omega) ?_))
       intro a16 c16 w16 h16
       have WB:=ah h16
       clear h15 h16 iV
       go_wp2_with fail
       go_roundw
       case rel=>
        refine⟨t+1,a16,n''+mf+md,c16,_,rfl,by go_num,by have:=oU.out.2;omega,ah ⟨?_,?_⟩,WB.out⟩
        ·rw[oU.out.1,dI,dI,HUU.out.1,PD.out.1,PD.out.2.2.1]
        ·rw[oU.out.1,lS,lS,HUU.out.2,PD.out.2.1,PD.out.2.2.2,List.append_assoc]
       case measure=>simp[intOf];have:=oU.out.2;omega
      ·obtain rfl:t=ne:=by omega
       have HF:Hid (n''=P1.length+K.length∧vs''=(P1++K).map bv):=ah (by
        have h1:=HU.out.2.2.1
        rw[←Zv.out] at h1
        rw[←dI,←h1];exact HUU.out)
       have HS:=ah hS
       clear hS hlt hj HUU
       go_wp2
       go_meet
       case rel=>exact⟨a'',n'',c'',vs'',J4,rfl,ah ⟨HF.out.1,HF.out.2,Mem.le_trans HJ.out YM.out.1⟩,HS.out⟩
    | false=>
     cases b19 with
     | true=>
      have Nk:=ah (HK.out.2.1 (HB0.out.2.1 rfl) (HB0.out.2.2.1 rfl))
      clear k11 k12
      have hS3:Sat W wr (sep (kn J) (sep (aK 5 1 a' n' c' vs') X)):=by have:=HS.out;simpa only[ay,au,aj] using this
      have EL:=ah hS3
      clear hS3 HS
      go_wp2_with fail
      refine (HCF.out _ _ _ HJ.out EL.out).mono ?_
      rintro e w4 ⟨b4,m4,d4,J4,rfl,zK,hr4,h4⟩
      have YM:=ah (And.intro zK hr4)
      have H4:=ah h4
      clear h4 zK hr4 HCF k0 k15 k16 k17 k18 EL
      go_upto_region 21 with (fail)
      go_wp2_with fail
      refine (mg (.slice b4 m4 d4) G H4.out YM.out.2 (by have:=HTL.out.2.1;omega)).mono ?_
      rintro e w5 ⟨a5,c5,rfl,h5⟩
      obtain⟨m2,hm2⟩:=aC ((encR G).length)
      obtain⟨v2,hv2⟩:=aC ((encR G).map bv)
      rw[←hm2,←hv2] at h5
      rw[←hm2]
      have qF:=ah (And.intro hm2 hv2)
      have iV:Hid (nZ w5 a5 m2 v2):=ah (by rw[hv2,hm2] at h5 ⊢;exact jh h5)
      have h6:Sat W w5 (sep (aK 5 1 a' n' c' vs') (sep (kn J4) X)):=by have:=h5.drop;simpa only[ay,au,aj] using this
      have hbd1:n'+m2≤1073741824:=by
       have h1:=lU.out
       rw[Nk.out,←hm2] at h1;omega
      have Iz:=ah hbd1
      clear h5 H4 hm2 hv2 hbd1
      go_wp2_with (at_builtin;(refine aJ rfl (.tmp 108) (.tmp 110) 129 rfl 5 1 1 (.int .u8 0) Tryz.underlying129 fJ rfl rfl h6 rfl v2 iV.out.len iV.out.nil iV.out.src iV.out.one (by have:=Iz.out;omega) (by have:=Iz.out;unfold maxLen;omega) ?_))
      intro a7 c7 w7 h7
      have H7:=ah h7
      clear h6 h7 iV
      go_wp2
      go_meet
      case rel=>exact⟨a7,n'+m2,c7,_,J4,rfl,ah ⟨by rw[lU.out.1,qF.out.1,Nk.out],by rw[lU.out.2.1,qF.out.2,Nk.out,lS],Mem.le_trans HJ.out YM.out.1⟩,H7.out⟩
     | false=>
      have HK3:=ah (HK.out.2.2 (HB0.out.2.1 rfl) (HB0.out.2.2.2 rfl))
      clear k11 k12 k15 k16 k17 k18
      go_wp2
      go_meet
      case rel=>exact⟨a',n',c',vs',J,rfl,ah ⟨by rw[lU.out.1,HK3.out];simp,by rw[lU.out.2.1,HK3.out,List.append_nil],HJ.out⟩,HS.out⟩
   clear k0 k11 k12 k15 k16 k17 k18 hb0 aa3 HB0 HS
   obtain⟨a2,n2,c2,vs2,J2,rfl,ZG,h22⟩:=hcut
   have k13:=(aB (HXP.out _ _ _ h22) 13 _ rfl).1
   by_cases hc0:z.cl.n=0
   ·have hc1:¬(0:Int)<(z.cl.n:Int):=by omega
    have HQ0:=ah (HQ.out.1 hc0)
    have h23:Sat W wc (sep (aK 5 1 a2 n2 c2 (F.map bv)) (sep (kn J2) X)):=by
     rw[lU.out.2.2.1,HQ0.out,List.append_nil,←ZG.out.2.1];exact h22
    obtain⟨J3,hle3,hr3,h24⟩:=kM h23 (by rw[lU.out.2.2.1,HQ0.out,List.append_nil,ZG.out.1,dI])
    have HF:=ah (And.intro hle3 (And.intro hr3 (HXQ.out _ _ h24).drop))
    clear h22 h23 h24 hle3 hr3 hc0
    go_wp2
    rw[dZ.out]
    exact⟨a2,n2,c2,J3,rfl,Mem.le_trans ZG.out.2.2 HF.out.1,by rw[HEF.out];exact HF.out.2.1,HF.out.2.2⟩
   ·have hc1:(0:Int)<(z.cl.n:Int):=by omega
    have HQ1:=ah (HQ.out.2 hc0)
    have h23:Sat W wc (sep (kn J2) (sep (aK 5 1 a2 n2 c2 vs2) X)):=by simpa only[ay,au,aj] using h22
    have H23:=ah h23
    clear h22 h23 hc0
    go_wp2_with fail
    refine (DK.out _ _ _ ZG.out.2.2 H23.out).mono ?_
    rintro e w4 ⟨b4,m4,d4,J4,rfl,zK,hr4,h4⟩
    have YM:=ah (And.intro zK hr4)
    have H4:=ah h4
    clear h4 zK hr4 DK k13 H23 hc1
    go_upto_region 24 with (fail)
    go_wp2_with fail
    refine (mg (.slice b4 m4 d4) C H4.out YM.out.2 (by have:=HTL.out.2.2;omega)).mono ?_
    rintro e w5 ⟨a5,c5,rfl,h5⟩
    obtain⟨m2,hm2⟩:=aC ((encR C).length)
    obtain⟨v2,hv2⟩:=aC ((encR C).map bv)
    rw[←hm2,←hv2] at h5
    rw[←hm2]
    have qF:=ah (And.intro hm2 hv2)
    have iV:Hid (nZ w5 a5 m2 v2):=ah (by rw[hv2,hm2] at h5 ⊢;exact jh h5)
    have h6:Sat W w5 (sep (aK 5 1 a2 n2 c2 vs2) (sep (kn J4) X)):=by have:=h5.drop;simpa only[ay,au,aj] using this
    have hbd1:n2+m2≤1073741824:=by
     have h1:=lU.out.2.2.2
     have h2:=ZG.out.1
     rw[HQ1.out,←hm2] at h1;omega
    have Iz:=ah hbd1
    clear h5 H4 hm2 hv2 hbd1
    go_wp2_with (at_builtin;(refine aJ rfl (.tmp 122) (.tmp 124) 129 rfl 5 1 1 (.int .u8 0) Tryz.underlying129 fJ rfl rfl h6 rfl v2 iV.out.len iV.out.nil iV.out.src iV.out.one (by have:=Iz.out;omega) (by have:=Iz.out;unfold maxLen;omega) ?_))
    intro a7 c7 w7 h7
    have h23:Sat W w7 (sep (aK 5 1 a7 (n2+m2) c7 (F.map bv)) (sep (kn J4) X)):=by
     rw[lU.out.2.2.1,HQ1.out,lS,←ZG.out.2.1,←qF.out.2];exact h7
    obtain⟨J3,hle3,hr3,h24⟩:=kM h23 (by rw[lU.out.2.2.1,HQ1.out,dI,dI,ZG.out.1,qF.out.1])
    have HF:=ah (And.intro hle3 (And.intro hr3 (HXQ.out _ _ h24).drop))
    clear h6 h7 h23 h24 hle3 hr3 iV
    go_wp2
    rw[dZ.out]
    exact⟨a7,n2+m2,c7,J3,rfl,Mem.le_trans ZG.out.2.2 (Mem.le_trans YM.out.1 HF.out.1),by rw[HEF.out];exact HF.out.2.1,HF.out.2.2⟩
end Go.Proofs.YtgicfogmdfdjmaaGreatDoor

/- Part of a proof. -/
import Derived.Test.YtgicfogmdfdjmaaGreatDoorGTitleHolds17
import Derived.Test.YtgicfogmdfdjmaaGreatDoorGTitleHolds10
namespace PA
open Go
def lW (I:Mem) (v:Value) (xs:List Ac):Prop:=∃(a:Option Addr) (n c:Nat),v=.slice a n c∧n=xs.length∧zB a n c∧bP a (bI xs) I
theorem lW.mono {I J:Mem} {v:Value} {xs:List Ac} (hl:Mem.le I J) (h:lW I v xs):lW J v xs:=by
 obtain⟨a,n,c,h1,h2,h3,h4⟩:=h
 exact⟨a,n,c,h1,h2,h3,fZ hl h4⟩
def qy (J:Mem) (zl:List Ac):Prop:=∃ps,dX (oM J) zl ps∧Made ps
theorem Fq {I J:Mem} (hl:Mem.le I J) {zl:List Ac} {ps:List Pa} (h:dX (oM I) zl ps):dX (oM J) zl ps:=h.wk fun _ _ hh=>hh.mono hl
theorem qy.mono {I J:Mem} {zl:List Ac} (hl:Mem.le I J) (h:qy I zl):qy J zl:=by
 obtain⟨ps,h1,h2⟩:=h
 exact⟨ps,Fq hl h1,h2⟩
theorem rY {W w:World} {A:aG} {J:Mem} {E:Nat} {a:Option Addr} {n c:Nat} {xs:List Ac} (hn:n=xs.length) (h:Sat W w (sep (aK E 19 a n c (bI xs)) (sep (kn J) A))):
 ∃J',Mem.le J J'∧lW J' (.slice a n c) xs∧Sat W w (sep (kn J') A):=by
 have hsw:=h.fA
 obtain⟨J',hle,hJ,h9⟩:=h.dQ.learn
 exact⟨J',hle,⟨a,n,c,rfl,hn,hsw,hJ⟩,h9⟩
end PA
namespace Go.Proofs.YtgicfogmdfdjmaaGreatDoor
open Go.RowKit PA
theorem U2:(Tryz.prog.info? 29).map (fun i=>(i.zero,i.size,i.bytes))=some (some (.slice none 0 0),1,24):=by kernel_rfl
def bsSs (n:Nat) (p:Array (Nat×Value)):Sem Value:=Instr.buildSlice 23 n p
theorem Ep (n:Nat) (p:Array (Nat×Value)):Instr.buildSlice 23 n p=bsSs n p:=rfl
theorem bs_ss (w:World) (a b c:Option Addr) (n1 n2 n3 c1 c2 c3:Nat):(bsSs 4 #[(0,.slice a n1 c1),(1,.slice b n2 c2),(2,.slice c n3 c3),(3,.slice none 0 0)]).run Tryz.prog w=.ok (.slice (some ⟨w.heap.size,0,none⟩) 4 4) (w.alloc (.cells #[.slice a n1 c1,.slice b n2 c2,.slice c n3 c3,.slice none 0 0] 29)):=by
 obtain⟨i,h1,h2,h3,h4⟩:=info_parts U2
 exact run_buildSlice w 23 29 4 _ _ i _ Tryz.underlying23 h1 h2 (by rw[h3];omega) (by rw[h3];omega) (by rw[h3];kernel_rfl)
attribute [local go_sem ↓] Ep
attribute [local go_sem] bs_ss
set_option maxRecDepth 100000 in
set_option maxHeartbeats 8000000 in
theorem He {W w:World} {A:aG} {I:Mem} (va vb:Value) (l m:List Int) (hva:OH I va l) (hvb:OH I vb m) (h:Sat W w (sep (kn I) A)):
 Calls Tryz.prog 5 #[va,vb] w fun e w'=>∃(L:Nat) (v1 v2 v3:Value) (z2 z3:List Ac) (J:Mem),e=.returned (.slice (some ⟨L,0,none⟩) 4 4)∧Mem.le I J∧bP (some ⟨L,0,none⟩) [v1,v2,v3,.slice none 0 0] J∧lW J v1 (iM l)∧lW J v2 z2∧lW J v3 (z3++iM l)∧qy J z2∧qy J z3∧z2.length≤14∧z3.length≤8∧Sat W w' (sep (kn J) A):=by
 have hsl:2≤(iM l).length:=by simp[iM]
 have hsl2:(iM l).length≤14:=by simp only[iM,dI,List.length_map,List.length_range,List.length_cons,List.length_nil];unfold BM;omega
 have H25:Hid (∀(K:Mem) (w0:World) (A0:aG),Mem.le I K→Sat W w0 (sep (kn K) A0)→Calls Tryz.prog 21 #[va] w0 fun e w'=>∃(v:Value) (J:Mem),e=.returned v∧Mem.le K J∧lW J v (iM l)∧Sat W w' (sep (kn J) A0)):=ah (by
  intro K w0 A0 hK h0
  obtain⟨⟨a,c,rfl⟩,h2,h3⟩:=hva.mono hK
  refine (G5 a c l h2 h3 h0).mono ?_
  rintro e w' ⟨a',n,c',rfl,hn,h4⟩
  obtain⟨J,h5,h6,h7⟩:=rY hn h4
  exact⟨_,J,rfl,h5,h6,h7⟩)
 have AP:Hid (∀(K:Mem) (most:Nat) (w0:World) (A0:aG),most≤14→Mem.le I K→Sat W w0 (sep (kn K) A0)→Calls Tryz.prog 22 #[vb,.int .i64 most] w0 fun e w'=>∃(v:Value) (zl:List Ac) (J:Mem),e=.returned v∧Mem.le K J∧lW J v zl∧qy J zl∧zl.length≤most∧Sat W w' (sep (kn J) A0)):=ah (by
  intro K most w0 A0 hmo hK h0
  refine (Gv vb m most hmo (hvb.mono hK) h0).mono ?_
  rintro e w' ⟨a,n,c,zl,ps,J,rfl,hn,hnm,hn0,hle,h1,h2,h4⟩
  obtain⟨J',h5,h6,h7⟩:=rY hn h4
  exact⟨_,zl,J',rfl,Mem.le_trans hle h5,h6,⟨ps,Fq h5 h1,h2⟩,by omega,h7⟩)
 have H:=ah h
 have HSL:=ah (And.intro hsl hsl2)
 clear hva hvb h hsl hsl2
 go_enter Tryz.func5,Tryz.ntmps5
 go_wp2_with fail
 refine (H25.out I _ _ (Mem.le_refl I) H.out).mono ?_
 rintro e w1 ⟨v1,J1,rfl,hle1,hv1,h1⟩
 go_wp2_with fail
 refine (AP.out J1 14 _ _ (Nat.le_refl _) hle1 h1).mono ?_
 rintro e w2 ⟨v2,z2,J2,rfl,hle2,hv2,hg2,hl2,h2⟩
 have h2e:=(h2.alloc (.cells #[] 67)).lI 0 0 19 [] rfl (by omega) (by unfold maxLen;omega) rfl rfl
 obtain⟨E,hE⟩:=aC (w2.heap.size)
 rw[←hE] at h2e
 have H2:=ah (And.intro hle1 (And.intro hv1 (And.intro hle2 (And.intro hv2 (And.intro hg2 hl2)))))
 have H2E:=ah (And.intro h2e hE)
 clear h1 h2 h2e hle1 hv1 hle2 hv2 hg2 hl2 hE H
 go_wp2_with fail
 refine (AP.out J2 8 _ _ (by omega) (Mem.le_trans H2.out.1 H2.out.2.2.1) (show Sat W _ (sep (kn J2) (sep (aK 67 19 (some ⟨E,0,none⟩) 0 0 (bI [])) A)) from by have h9:=H2E.out.1.p1;exact h9)).mono ?_
 rintro e w3 ⟨v3,z3,J3,rfl,hle3,⟨a3,n3,c3,rfl,hn3,aaJ,hc3⟩,hg3,hl3,h3⟩
 have h3b:Sat W w3 (sep (aK 67 19 (some ⟨E,0,none⟩) 0 0 []) (sep (kn J3) A)):=h3.p1
 have U3:=vS hc3 h3.ext
 have aaK:(bI z3).length=n3*19:=by rw[fF,hn3]
 have ho3:=vP z3
 obtain⟨vs,hvs⟩:=aC (bI z3)
 rw[←hvs] at U3 aaK ho3
 have hn8:n3≤8:=by omega
 have hz3:a3=none→n3=0:=fun e=>by have:=aaJ.2.2 e;have:=aaJ.1;omega
 have HZ3:=ah hz3
 clear hz3
 have P9:=ah hn8
 have H3:=ah (And.intro U3 (And.intro aaK (And.intro ho3 h3b)))
 have Ed:=ah (And.intro hle3 (And.intro hg3 (And.intro hl3 (And.intro hvs hn3))))
 clear h3 h3b U3 aaK ho3 hle3 hg3 hl3 hvs hn3 aaJ hc3 hn8
 rw[←H2E.out.2]
 clear AP
 go_wp2_with (at_builtin;go_loud (refine aJ rfl _ _ 29 rfl 67 19 248 _ Tryz.underlying29 jR rfl rfl H3.out.2.2.2 rfl vs H3.out.2.1 HZ3.out H3.out.1 H3.out.2.2.1 (by have:=P9.out;omega) (by unfold maxLen;have:=P9.out;omega) ?_))
 intro a4 c4 w4 h4
 have h4b:Sat W w4 (sep (aK 67 19 a4 n3 c4 vs) (sep (kn J3) A)):=by
  have h9:=h4
  try simp only[Nat.zero_add,List.nil_append] at h9
  exact h9
 have H4:=ah h4b
 clear h4 h4b H3 H2E
 go_wp2_with fail
 refine (H25.out J3 _ _ (Mem.le_trans (Mem.le_trans H2.out.1 H2.out.2.2.1) Ed.out.1) H4.out.p1).mono ?_
 rintro e w5 ⟨v5,J5,rfl,Nq,⟨a5,n5,c5,rfl,hn5,aaL,hc5⟩,h5⟩
 have h5b:Sat W w5 (sep (aK 67 19 a4 n3 c4 vs) (sep (kn J5) A)):=h5.p1
 have U4:=vS hc5 h5.ext
 have aaM:(bI (iM l)).length=n5*19:=by rw[fF,hn5]
 have ho5:=vP (iM l)
 obtain⟨us,hus⟩:=aC (bI (iM l))
 rw[←hus] at U4 aaM ho5
 have hz5:a5=none→n5=0:=fun e=>by have:=aaL.2.2 e;have:=aaL.1;omega
 have HZ5:=ah hz5
 clear hz5
 have acw:n5≤14:=by have:=HSL.out.2;omega
 have acy:=ah (And.intro P9.out acw)
 have H5:=ah (And.intro U4 (And.intro aaM (And.intro ho5 h5b)))
 have HG5:=ah (And.intro Nq (And.intro hus hn5))
 clear h5 h5b U4 aaM ho5 Nq hus hn5 aaL hc5 acw H4 H25
 go_wp2_with (at_builtin;go_loud (refine aJ rfl _ _ 29 rfl 67 19 248 _ Tryz.underlying29 jR rfl rfl H5.out.2.2.2 rfl us H5.out.2.1 HZ5.out H5.out.1 H5.out.2.2.1 (by have:=acy.out;omega) (by unfold maxLen;have:=acy.out;omega) ?_))
 intro a6 c6 w6 h6
 have e6:vs++us=bI (z3++iM l):=by rw[gG,Ed.out.2.2.2.1,HG5.out.2.1]
 rw[e6] at h6
 have hn6:n3+n5=(z3++iM l).length:=by rw[dI,Ed.out.2.2.2.2,HG5.out.2.2]
 obtain⟨J6,yw,hv6,h6b⟩:=rY hn6 h6
 obtain⟨a6',n6',c6',e6',-,-,-⟩:=id hv6
 have h7:=(h6b.alloc (.cells #[v1,v2,.slice a6 (n3+n5) c6,.slice none 0 0] 29)).settle
 obtain⟨L,hL⟩:=aC (w6.heap.size)
 rw[←hL] at h7
 obtain⟨J7,Hf,hJ7,h8⟩:=(show Sat W _ (sep (Y0 L (.cells #[v1,v2,.slice a6 (n3+n5) c6,.slice none 0 0] 29)) (sep (kn J6) A)) from h7).learn
 have HF:=ah (And.intro yw (And.intro hv6 (And.intro Hf (And.intro hJ7 (And.intro h8 hL)))))
 obtain⟨a1,n1,c1,rfl,-⟩:=id H2.out.2.1
 obtain⟨a2,n2,c2,rfl,-⟩:=id H2.out.2.2.2.1
 clear h6 h7 h8 yw hv6 Hf hJ7 hL e6 hn6 h6b e6' H5
 go_wp2
 rw[←HF.out.2.2.2.2.2]
 go_ret
 have Nq:=HG5.out.1
 have hle3:=Ed.out.1
 have l67:=Mem.le_trans HF.out.1 HF.out.2.2.1
 have l57:=Mem.le_trans Nq l67
 have l37:=Mem.le_trans hle3 l57
 refine⟨L,_,_,_,z2,z3,J7,rfl,Mem.le_trans (Mem.le_trans H2.out.1 H2.out.2.2.1) l37,.inr ⟨L,0,_,29,(0,0),rfl,HF.out.2.2.2.1,fun i u hu=>by simpa using hu⟩,H2.out.2.1.mono (Mem.le_trans H2.out.2.2.1 l37),H2.out.2.2.2.1.mono l37,HF.out.2.1.mono HF.out.2.2.1,H2.out.2.2.2.2.1.mono l37,Ed.out.2.1.mono l57,H2.out.2.2.2.2.2,Ed.out.2.2.1,HF.out.2.2.2.2.1⟩
end Go.Proofs.YtgicfogmdfdjmaaGreatDoor
namespace PA
open Go
def jM (xs:List Ac):List Int:=(xs.filter fun x=>x.k==0).map Ac.f
theorem NJ (xs:List Ac) (x:Ac):jM (xs++[x])=jM xs++if x.k=0 then [x.f] else []:=by
 unfold jM
 rw[List.filter_append,lS]
 by_cases h:x.k=0<;>simp[h]
theorem QM {xs:List Ac} {f:Int}:f∈jM xs↔∃x∈xs,x.k=0∧x.f=f:=by
 unfold jM
 simp only[List.mem_map,List.mem_filter,beq_iff_eq]
 constructor
 ·rintro⟨x,⟨h1,h2⟩,h3⟩;exact⟨x,h1,h2,h3⟩
 ·rintro⟨x,h1,h2,h3⟩;exact⟨x,⟨h1,h2⟩,h3⟩
end PA
namespace Go.Proofs.YtgicfogmdfdjmaaGreatDoor
open Go.RowKit PA
attribute [local go_sem ↓] bQ bZ
end Go.Proofs.YtgicfogmdfdjmaaGreatDoor

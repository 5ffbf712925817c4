/- Part of a proof. -/
import Derived.Test.YthfmaclnccdcbaaGreatDoorGActsOrder22
namespace PA
open Go Go.RowKit
def DV (x:Pa):Bool:=aN x.q 1 4095&&decide (x.q≠x.p)
def IY (n d:Int):Bool:=okR ⟨n,d⟩&&(decide (n≤d)&&decide (0<n))
def qP (x:Pa):Bool:=
 if x.k=0 then QK x
 else if x.k=3∨x.k=15 then gW x.cl
 else if x.k=4 then aN x.u 0 66&&(decide (x.u≠6)&&(aN x.q 0 7&&aN x.m 1 1099511627776))
 else if x.k=5 then aN x.u 0 1
 else if x.k=6∨x.k=7 then aN x.u 0 255
 else if x.k=8 then aN x.u 0 255&&aN x.m 1 12
 else if x.k=9∨x.k=20 then jf x
 else if x.k=13 then aN x.u 0 2&&(aN x.q 0 1&&((decide (x.u=2)&&gW x.cl)||(decide (x.u<2)&&decide (x.cl.length=0))))
 else if x.k=16 then DV x&&IY x.sn x.sd
 else if x.k=17 then DV x&&jf x
 else if x.k=18 then aN x.u 0 7
 else if x.k=19 then decide (jV x.fx=0)
 else if x.k=21 then aN x.u 0 18&&aN x.m 0 1099511627776
 else true
end PA
namespace Go.Proofs.YthfmaclnccdcbaaGreatDoor
open Go.RowKit PA
set_option maxHeartbeats 4000000 in
theorem OB {W w:World} {A:aC} (n d:Int) (hB:SV ⟨n,d⟩) (h:Sat W w A):
 Calls Tryz.prog 160 #[.agg #[.int .i64 n,.int .i64 d],.agg #[.int .i64 1,.int .i64 1]] w fun e w'=>∃c:Int,e=.returned (.int .i64 c)∧decide (c≤0)=decide (n≤d)∧Sat W w' A:=by
 have h1:=(h.alloc (.cells #[.int .i64 n,.int .i64 d] 26)).alloc (.cells #[.int .i64 1,.int .i64 1] 26);rw[World.size_alloc] at h1;obtain⟨B,hBb⟩:=aB (w.heap.size);obtain⟨w1,hw1⟩:=aB ((w.alloc (.cells #[.int .i64 n,.int .i64 d] 26)).alloc (.cells #[.int .i64 1,.int .i64 1] 26));rw[←hBb,←hw1] at h1;have HB:=ah (And.intro hBb hw1);have h2:=h1.drew;obtain⟨wd,hwd⟩:=aB (w1.drew);rw[←hwd] at h2;obtain⟨k0,k1,-,-⟩:=kG h2;obtain⟨j0,j1,-,-⟩:=kG h2.p1;have HF:=ah h2.drop.drop;have oD:=ah hwd;have e1:IntKind.i64.wrap (n*1)=n:=by rw[Int.mul_one];exact IntWalk.i64_in _ ⟨hB.n1,hB.n2⟩
 have e2:IntKind.i64.wrap (1*d)=d:=by rw[Int.one_mul];exact IntWalk.i64_in _ ⟨hB.d1,hB.d2⟩
 have e3:IntKind.i64.wrap n=n:=IntWalk.i64_in _ ⟨hB.n1,hB.n2⟩;have e4:IntKind.i64.wrap d=d:=IntWalk.i64_in _ ⟨hB.d1,hB.d2⟩;clear h h1 hBb hw1 h2 hwd hB
 go_enter Tryz.func160,Tryz.ntmps160
 go_upto_region 1 with (fail)
 rw[←HB.out.1,←HB.out.2];refine aG rfl (fun _=>True) [(0,.p),(1,.t),(2,.p),(3,.t),(4,.p),(5,.p),(6,.t),(7,.p),(8,.t),(9,.p),(10,.p),(11,.p)] (by kernel_rfl) ?_;rw[←oD.out];have hS0:True:=trivial;refine bF ?_;refine dN ?_;clear k0 k1 j0 j1
 try simp only[e1,e2,e3,e4]
 rcases Int.lt_trichotomy n d with hlt|rfl|hgt
 ·go_wp2
  go_ret
  exact⟨-1,rfl,by first|(rw[show decide ((-1:Int)≤0)=true from rfl,decide_eq_true (by omega)];done)|(simp;omega),HF.out⟩
 ·go_wp2
  go_ret
  exact⟨0,rfl,by simp,HF.out⟩
 ·have h3:¬n<d:=by omega
  go_wp2
  go_ret
  exact⟨1,rfl,by first|(rw[show decide ((1:Int)≤0)=false from rfl,decide_eq_false (by omega)];done)|(simp;omega),HF.out⟩
set_option maxHeartbeats 4000000 in
theorem Ro {W w:World} {A:aC} (n d:Int) (hB:SV ⟨n,d⟩) (h:Sat W w A):
 Calls Tryz.prog 117 #[.agg #[.int .i64 n,.int .i64 d],.agg #[.int .i64 1,.int .i64 1]] w fun e w'=>∃c r:Int,e=.returned (.tuple #[.int .i64 c,.int .i64 r])∧((r==0)&&decide (c≤0))=(okR ⟨n,d⟩&&decide (n≤d))∧Sat W w' A:=by
 have h1:=(h.alloc (.cells #[.int .i64 n,.int .i64 d] 26)).alloc (.cells #[.int .i64 1,.int .i64 1] 26);rw[World.size_alloc] at h1;obtain⟨B,hBb⟩:=aB (w.heap.size);obtain⟨w1,hw1⟩:=aB ((w.alloc (.cells #[.int .i64 n,.int .i64 d] 26)).alloc (.cells #[.int .i64 1,.int .i64 1] 26));rw[←hBb,←hw1] at h1;have HB:=ah (And.intro hBb hw1);obtain⟨k0,k1,-,-⟩:=kG h1;obtain⟨j0,j1,-,-⟩:=kG h1.p1;have hv:=h1.alloc (.cells #[.int .i64 n,.int .i64 d,.int .i64 1,.int .i64 1] 26);have hvs:=LY ⟨n,d⟩ ⟨1,1⟩ hB ⟨by decide,by decide,by decide,by decide⟩ _ hv;have hif:(if okR ⟨n,d⟩=true∧okR ⟨1,1⟩=true then (0:Int) else 1)=if okR ⟨n,d⟩=true then 0 else 1:=by
  have:okR ⟨1,1⟩=true:=uf 1 1 (by omega) (by omega) (by decide) (by decide);rw[this];simp
 rw[hif] at hvs;have ZY:=ah (fun w' (A':aC) (h':Sat W w' A')=>OB n d hB h');obtain⟨ok,hok⟩:=aB (okR ⟨n,d⟩);rw[←hok] at hvs ⊢;have sH:=ah hvs;clear h h1 hBb hw1 hv hvs hif hB hok
 go_enter Tryz.func117,Tryz.ntmps117
 go_upto_region 1 with (fail)
 rw[←HB.out.1,←HB.out.2]
 go_wp2_with fail
 refine sH.out.mono ?_;rintro e w3 ⟨rfl,h3⟩;obtain⟨k0',k1',-,-⟩:=kG h3;obtain⟨j0',j1',-,-⟩:=kG h3.p1;have H3:=ah h3;clear k0 k1 j0 j1 h3 sH;cases ok with
 | false=>
  go_wp2
  exact bodyPost_ret (v:=.tuple #[.int .i64 0,.int .i64 1]) (by simp[results,Tryz.results117,go_sem]) rfl ⟨0,1,rfl,rfl,H3.out.drop.drop⟩
 | true=>
  go_wp2_with fail
  refine (ZY.out _ _ H3.out).mono ?_;rintro e w4 ⟨c,rfl,hc,h4⟩;have H4:=ah (And.intro hc h4);clear hc h4 H3 ZY k0' k1' j0' j1'
  go_wp2
  exact bodyPost_ret (v:=.tuple #[.int .i64 c,.int .i64 0]) (by simp[results,Tryz.results117,go_sem]) rfl ⟨c,0,rfl,by simpa using H4.out.1,H4.out.2.drop.drop⟩
attribute [local go_sem ↓] bW dB aY
theorem tN {W w:World} {A:aC} (B:Nat) (z:Ac) (h:Sat W w (sep (blk B (.cells z.cells.toArray 36 (0,0))) A)):
 Calls Tryz.prog 115 #[.pointer (some ⟨B,0,none⟩)] w fun e w'=>e=.returned (.bool (aN z.u z.d 131072))∧w=w':=by
 have k7:=(au h 7 _ rfl).1;have k1:=(au h 1 _ rfl).1;have C:=ah (fun w'=>bG z.u z.d 131072 w');clear h
 go_enter Tryz.func115,Tryz.ntmps115
 go_wp2_with fail
 refine (C.out _).mono ?_;rintro e w2 ⟨rfl,rfl⟩
 go_wp2
 go_ret
 exact⟨rfl,rfl⟩
theorem vM {W w:World} {A:aC} (B:Nat) (z:Ac) (h:Sat W w (sep (blk B (.cells z.cells.toArray 36 (0,0))) A)):
 Calls Tryz.prog 114 #[.pointer (some ⟨B,0,none⟩)] w fun e w'=>e=.returned (.bool (aN z.q 1 4095&&decide (z.q≠z.p)))∧w=w':=by
 have k6:=(au h 6 _ rfl).1;have k5:=(au h 5 _ rfl).1;obtain⟨b1,hb1⟩:=aB (aN z.q 1 4095);have C:Hid (∀w',Calls Tryz.prog 60 #[.int .i64 z.q,.int .i64 1,.int .i64 4095] w' fun e w''=>e=.returned (.bool b1)∧w'=w''):=ah fun w'=>by rw[hb1];exact bG _ _ _ w'
 rw[←hb1];obtain⟨b2,hb2⟩:=aB ((z.q !=z.p));have e2:decide (z.q≠z.p)=b2:=by
  rw[hb2]
  by_cases h:z.q=z.p
  ·rw[h];simp
  ·rw[decide_eq_true h];simpa using h
 have hb2':(z.q !=z.p)=b2:=hb2.symm;rw[e2];clear h hb1 hb2 e2
 go_enter Tryz.func114,Tryz.ntmps114
 go_wp2_with fail
 refine (C.out _).mono ?_;rintro e w2 ⟨rfl,rfl⟩;cases b1 with
 | false=>
  go_wp2
  go_ret
  exact⟨rfl,rfl⟩
 | true=>
  cases b2 with
  | false=>
   go_wp2
   go_ret
   exact⟨rfl,rfl⟩
  | true=>
   go_wp2
   go_ret
   exact⟨rfl,rfl⟩
theorem qO {W w:World} {A:aC} {I:Mem} (B:Nat) (z:Ac) (l:List Cl) (hv:(kM.slice 5).rel I [z.cl.v] l) (hK:∀c∈l,Jk c.body) (h:Sat W w (sep (kn I) (sep (blk B (.cells z.cells.toArray 36 (0,0))) A))):
 Calls Tryz.prog 112 #[.pointer (some ⟨B,0,none⟩)] w fun e w'=>e=.returned (.bool (gW l))∧Sat W w' (sep (kn I) (sep (blk B (.cells z.cells.toArray 36 (0,0))) A)):=by
 have hn:=(aI hv).1;have hn63:=(aI hv).2.2;have k13:=(au h.p1 13 _ rfl).1;have hcv:=lY z.cl.a z.cl.n z.cl.c l hv hK h;obtain⟨nc,hnc⟩:=aB (z.cl.n);obtain⟨ce,hce⟩:=aB (pR l);have ZR:w.cell? ⟨B,13,none⟩=some (.slice z.cl.a nc z.cl.c):=by rw[hnc];exact k13
 rw[←hce,←hnc] at hcv;rw[←hnc] at hn hn63;have Qk:=ah hcv;have H:=ah h;obtain⟨rv,dK⟩:=aB (gW l);have bM:Hid (rv=(decide (0<nc)&&decide (ce=0))):=ah (by rw[dK,hn,hce];rfl);rw[←dK];clear hv h hn k13 hcv hnc hce dK
 by_cases n0:0<nc
 ·have n0z:(0:Int)<(nc:Int):=by omega
  have HR2:Hid (rv=decide (ce=0)):=ah (by rw[bM.out,decide_eq_true n0];rfl);clear n0
  go_enter Tryz.func112,Tryz.ntmps112
  go_wp2_with fail
  refine Qk.out.mono ?_;rintro e w2 ⟨rfl,h2⟩;have H2:=ah h2;clear h2 H Qk ZR
  by_cases c0:ce=0
  ·subst c0
   go_wp2
   go_ret
   exact⟨by (rw[HR2.out];try rfl),H2.out⟩
  ·have c1:(ce==0)=false:=by simpa using c0
   have HF:Hid (rv=false):=ah (by rw[HR2.out,decide_eq_false c0]);clear c0
   go_wp2
   go_ret
   exact⟨by (rw[HF.out];try rfl),H2.out⟩
 ·have n0z:¬(0:Int)<(nc:Int):=by omega
  have HF:Hid (rv=false):=ah (by rw[bM.out,decide_eq_false n0];rfl);clear n0
  go_enter Tryz.func112,Tryz.ntmps112
  go_wp2
  go_ret
  exact⟨by (rw[HF.out];try rfl),H.out⟩
set_option maxRecDepth 100000 in
set_option maxHeartbeats 32000000 in
theorem EY {W w:World} {A:aC} {I:Mem} (z:Ac) (x:Pa) (hA:kX I z x) (hz:SzM x) (hk0:0≤z.k) (hk1:z.k≤21) (h:Sat W w (sep (kn I) A)):
 Calls Tryz.prog 63 #[.agg z.cells.toArray] w fun e w'=>∃J,e=.returned (.bool (qP x))∧Mem.le I J∧Sat W w' (sep (kn J) A):=by
 have h1:=(h.alloc (.cells z.cells.toArray 36)).p1;obtain⟨B,hB⟩:=aB (w.heap.size);obtain⟨w1,hw1⟩:=aB (w.alloc (.cells z.cells.toArray 36));rw[←hB,←hw1] at h1;have HB:=ah (And.intro hB hw1);obtain⟨rv,dK⟩:=aB (qP x);obtain⟨Po,dU⟩:∃P:Ending→World→Prop,P=fun e w'=>∃J,e=.returned (.bool rv)∧Mem.le I J∧Sat W w' (sep (kn J) A):=⟨_,rfl⟩
 rw[←dK,←dU];have bI:=ah dU;have hmf:∀(fn:Fn) (first cap:Array Value) (w:World),(Instr.makeFunc fn first cap).run Tryz.prog w=.ok (.func fn first cap) w:=fun _ _ _ _=>rfl
 have HX:=ah (And.intro hA hz);have H1:=ah h1;have ji:rv=qP x:=dK;unfold qP at ji;rw[←hA.k,←hA.u,←hA.q,←hA.m] at ji;have bM:=ah ji;have kk:=(au h1.p1 0 _ rfl).1;have k5:=(au h1.p1 5 _ rfl).1;have k6:=(au h1.p1 6 _ rfl).1;have k7:=(au h1.p1 7 _ rfl).1;have k8:=(au h1.p1 8 _ rfl).1;obtain⟨kz,hkz⟩:=aB (z.k);rw[←hkz] at hk0 hk1 bM;have k0:w1.cell? ⟨B,0,none⟩=some (.int .i64 kz):=by rw[hkz];exact kk
 have HKZ:=ah hkz;clear hA hz h h1 hB hw1 dK dU ji kk hkz;obtain rfl|rfl|rfl|rfl|rfl|rfl|rfl|rfl|rfl|rfl|rfl|rfl|rfl|rfl|rfl|rfl|rfl|rfl|rfl|rfl|rfl|rfl:kz=0∨kz=1∨kz=2∨kz=3∨kz=4∨kz=5∨kz=6∨kz=7∨kz=8∨kz=9∨kz=10∨kz=11∨kz=12∨kz=13∨kz=14∨kz=15∨kz=16∨kz=17∨kz=18∨kz=19∨kz=20∨kz=21:=by omega
 ·as_aux_lemma=>
  have Z5:=ah (Ik z x HX.out.1 HX.out.2 H1.out);have hld:=gB H1.out.p1;obtain⟨bl,hbl⟩:=aB (QK x);have HF:Hid (rv=bl):=ah (by rw[bM.out,hbl];rfl);rw[←hbl] at Z5;clear hbl
  go_enter Tryz.func63,Tryz.ntmps63
  go_upto_region 1 with (fail)
  rw[←HB.out.1,←HB.out.2]
  go_wp2_with fail
  refine Z5.out.mono ?_;rintro e w2 ⟨J,rfl,hle,h2⟩;have H2:=ah h2;have HL:=ah hle;clear h2 hle Z5 H1 k0 k5 k6 k7 k8 hld
  go_wp2
  rw[bI.out];exact⟨J,by (rw[HF.out];try rfl),HL.out,H2.out.p1.drop⟩
 ·as_aux_lemma=>
  have HF:Hid (rv=true):=ah (by rw[bM.out];rfl)
  go_enter Tryz.func63,Tryz.ntmps63
  go_upto_region 1 with (fail)
  rw[←HB.out.1,←HB.out.2]
  go_wp2
  rw[bI.out];exact⟨I,by (rw[HF.out];try rfl),Mem.le_refl _,H1.out.p1.drop⟩
 ·as_aux_lemma=>
  have HF:Hid (rv=true):=ah (by rw[bM.out];rfl)
  go_enter Tryz.func63,Tryz.ntmps63
  go_upto_region 1 with (fail)
  rw[←HB.out.1,←HB.out.2]
  go_wp2
  rw[bI.out];exact⟨I,by (rw[HF.out];try rfl),Mem.le_refl _,H1.out.p1.drop⟩
 ·as_aux_lemma=>
  have SC:=ah (qO B z x.cl HX.out.1.cl HX.out.2.cl H1.out);obtain⟨bl,hbl⟩:=aB (gW x.cl);have HF:Hid (rv=bl):=ah (by rw[bM.out,hbl];rfl);rw[←hbl] at SC;clear hbl
  go_enter Tryz.func63,Tryz.ntmps63
  go_upto_region 1 with (fail)
  rw[←HB.out.1,←HB.out.2]
  go_wp2_with fail
  refine SC.out.mono ?_;rintro e w2 ⟨rfl,h2⟩;have H2:=ah h2;clear h2 SC H1 k0 k5 k6 k7 k8
  go_wp2
  rw[bI.out];exact⟨I,by (rw[HF.out];try rfl),Mem.le_refl _,H2.out.p1.drop⟩
 ·as_aux_lemma=>
  obtain⟨b0,hb0⟩:=aB (aN z.u 0 66);have C0:Hid (∀w',Calls Tryz.prog 60 #[.int .i64 z.u,.int .i64 0,.int .i64 66] w' fun e w''=>e=.returned (.bool b0)∧w'=w''):=ah fun w'=>by rw[hb0];exact bG _ _ _ w'
  obtain⟨b1,hb1⟩:=aB ((z.u !=6));have g1:decide (z.u≠6)=b1:=by
   rw[hb1]
   by_cases h:z.u=6
   ·rw[h];simp
   ·rw[decide_eq_true h];simpa using h
  have hb1':(z.u !=6)=b1:=hb1.symm;obtain⟨b2,hb2⟩:=aB (aN z.q 0 7);have C2:Hid (∀w',Calls Tryz.prog 60 #[.int .i64 z.q,.int .i64 0,.int .i64 7] w' fun e w''=>e=.returned (.bool b2)∧w'=w''):=ah fun w'=>by rw[hb2];exact bG _ _ _ w'
  obtain⟨b3,hb3⟩:=aB (aN z.m 1 1099511627776);have C3:Hid (∀w',Calls Tryz.prog 60 #[.int .i64 z.m,.int .i64 1,.int .i64 1099511627776] w' fun e w''=>e=.returned (.bool b3)∧w'=w''):=ah fun w'=>by rw[hb3];exact bG _ _ _ w'
  have HR:Hid (rv=(b0&&(b1&&(b2&&b3)))):=ah (by
   have h0:rv=(aN z.u 0 66&&(decide (z.u≠6)&&(aN z.q 0 7&&aN z.m 1 1099511627776))):=by rw[bM.out];rfl
   rw[h0,←hb0,g1,←hb2,←hb3])
  clear hb0 hb1 hb2 hb3 g1
  go_enter Tryz.func63,Tryz.ntmps63
  go_upto_region 1 with (fail)
  rw[←HB.out.1,←HB.out.2]
  go_wp2_with fail
  refine (C0.out _).mono ?_;rintro e w2 ⟨rfl,rfl⟩;cases b0 with
  | false=>
   have HF:Hid (rv=false):=ah (by rw[HR.out];rfl)
   go_wp2
   rw[bI.out];exact⟨I,by (rw[HF.out];try rfl),Mem.le_refl _,H1.out.p1.drop⟩
  | true=>
   cases b1 with
   | false=>
    have HF:Hid (rv=false):=ah (by rw[HR.out];rfl)
    go_wp2
    rw[bI.out];exact⟨I,by (rw[HF.out];try rfl),Mem.le_refl _,H1.out.p1.drop⟩
   | true=>
    go_wp2_with fail
    refine (C2.out _).mono ?_;rintro e w2 ⟨rfl,rfl⟩;cases b2 with
    | false=>
     have HF:Hid (rv=false):=ah (by rw[HR.out];rfl)
     go_wp2
     rw[bI.out];exact⟨I,by (rw[HF.out];try rfl),Mem.le_refl _,H1.out.p1.drop⟩
    | true=>
     go_wp2_with fail
     refine (C3.out _).mono ?_;rintro e w2 ⟨rfl,rfl⟩;have HF:Hid (rv=b3):=ah (by rw[HR.out];try (cases b3<;>rfl))
     go_wp2
     rw[bI.out];exact⟨I,by (rw[HF.out];try rfl),Mem.le_refl _,H1.out.p1.drop⟩
 ·as_aux_lemma=>
  obtain⟨b0,hb0⟩:=aB (aN z.u 0 1);have C0:Hid (∀w',Calls Tryz.prog 60 #[.int .i64 z.u,.int .i64 0,.int .i64 1] w' fun e w''=>e=.returned (.bool b0)∧w'=w''):=ah fun w'=>by rw[hb0];exact bG _ _ _ w'
  have HR:Hid (rv=(b0)):=ah (by
   have h0:rv=(aN z.u 0 1):=by rw[bM.out];rfl
   rw[h0,←hb0])
  clear hb0
  go_enter Tryz.func63,Tryz.ntmps63
  go_upto_region 1 with (fail)
  rw[←HB.out.1,←HB.out.2]
  go_wp2_with fail
  refine (C0.out _).mono ?_;rintro e w2 ⟨rfl,rfl⟩;have HF:Hid (rv=b0):=ah (by rw[HR.out];try (cases b0<;>rfl))
  go_wp2
  rw[bI.out];exact⟨I,by (rw[HF.out];try rfl),Mem.le_refl _,H1.out.p1.drop⟩
 ·as_aux_lemma=>
  obtain⟨b0,hb0⟩:=aB (aN z.u 0 255);have C0:Hid (∀w',Calls Tryz.prog 60 #[.int .i64 z.u,.int .i64 0,.int .i64 255] w' fun e w''=>e=.returned (.bool b0)∧w'=w''):=ah fun w'=>by rw[hb0];exact bG _ _ _ w'
  have HR:Hid (rv=(b0)):=ah (by
   have h0:rv=(aN z.u 0 255):=by rw[bM.out];rfl
   rw[h0,←hb0])
  clear hb0
  go_enter Tryz.func63,Tryz.ntmps63
  go_upto_region 1 with (fail)
  rw[←HB.out.1,←HB.out.2]
  go_wp2_with fail
  refine (C0.out _).mono ?_;rintro e w2 ⟨rfl,rfl⟩;have HF:Hid (rv=b0):=ah (by rw[HR.out];try (cases b0<;>rfl))
  go_wp2
  rw[bI.out];exact⟨I,by (rw[HF.out];try rfl),Mem.le_refl _,H1.out.p1.drop⟩
 ·as_aux_lemma=>
  obtain⟨b0,hb0⟩:=aB (aN z.u 0 255);have C0:Hid (∀w',Calls Tryz.prog 60 #[.int .i64 z.u,.int .i64 0,.int .i64 255] w' fun e w''=>e=.returned (.bool b0)∧w'=w''):=ah fun w'=>by rw[hb0];exact bG _ _ _ w'
  have HR:Hid (rv=(b0)):=ah (by
   have h0:rv=(aN z.u 0 255):=by rw[bM.out];rfl
   rw[h0,←hb0])
  clear hb0
  go_enter Tryz.func63,Tryz.ntmps63
  go_upto_region 1 with (fail)
  rw[←HB.out.1,←HB.out.2]
  go_wp2_with fail
  refine (C0.out _).mono ?_;rintro e w2 ⟨rfl,rfl⟩;have HF:Hid (rv=b0):=ah (by rw[HR.out];try (cases b0<;>rfl))
  go_wp2
  rw[bI.out];exact⟨I,by (rw[HF.out];try rfl),Mem.le_refl _,H1.out.p1.drop⟩
 ·as_aux_lemma=>
  obtain⟨b0,hb0⟩:=aB (aN z.u 0 255);have C0:Hid (∀w',Calls Tryz.prog 60 #[.int .i64 z.u,.int .i64 0,.int .i64 255] w' fun e w''=>e=.returned (.bool b0)∧w'=w''):=ah fun w'=>by rw[hb0];exact bG _ _ _ w'
  obtain⟨b1,hb1⟩:=aB (aN z.m 1 12);have C1:Hid (∀w',Calls Tryz.prog 60 #[.int .i64 z.m,.int .i64 1,.int .i64 12] w' fun e w''=>e=.returned (.bool b1)∧w'=w''):=ah fun w'=>by rw[hb1];exact bG _ _ _ w'
  have HR:Hid (rv=(b0&&b1)):=ah (by
   have h0:rv=(aN z.u 0 255&&aN z.m 1 12):=by rw[bM.out];rfl
   rw[h0,←hb0,←hb1])
  clear hb0 hb1
  go_enter Tryz.func63,Tryz.ntmps63
  go_upto_region 1 with (fail)
  rw[←HB.out.1,←HB.out.2]
  go_wp2_with fail
  refine (C0.out _).mono ?_;rintro e w2 ⟨rfl,rfl⟩;cases b0 with
  | false=>
   have HF:Hid (rv=false):=ah (by rw[HR.out];rfl)
   go_wp2
   rw[bI.out];exact⟨I,by (rw[HF.out];try rfl),Mem.le_refl _,H1.out.p1.drop⟩
  | true=>
   go_wp2_with fail
   refine (C1.out _).mono ?_;rintro e w2 ⟨rfl,rfl⟩;have HF:Hid (rv=b1):=ah (by rw[HR.out];try (cases b1<;>rfl))
   go_wp2
   rw[bI.out];exact⟨I,by (rw[HF.out];try rfl),Mem.le_refl _,H1.out.p1.drop⟩
 ·as_aux_lemma=>
  have XG:=ah (tN B z H1.out.p1);obtain⟨bl,hbl⟩:=aB (aN z.u z.d 131072);have HF:Hid (rv=bl):=ah (by
   have h0:rv=jf x:=by rw[bM.out];rfl
   rw[h0,hbl];unfold jf;rw[HX.out.1.u,HX.out.1.d])
  rw[←hbl] at XG;clear hbl
  go_enter Tryz.func63,Tryz.ntmps63
  go_upto_region 1 with (fail)
  rw[←HB.out.1,←HB.out.2]
  go_wp2_with fail
  refine XG.out.mono ?_;rintro e w2 ⟨rfl,rfl⟩
  go_wp2
  rw[bI.out];exact⟨I,by (rw[HF.out];try rfl),Mem.le_refl _,H1.out.p1.drop⟩
 ·as_aux_lemma=>
  have HF:Hid (rv=true):=ah (by rw[bM.out];rfl)
  go_enter Tryz.func63,Tryz.ntmps63
  go_upto_region 1 with (fail)
  rw[←HB.out.1,←HB.out.2]
  go_wp2
  rw[bI.out];exact⟨I,by (rw[HF.out];try rfl),Mem.le_refl _,H1.out.p1.drop⟩
 ·as_aux_lemma=>
  have HF:Hid (rv=true):=ah (by rw[bM.out];rfl)
  go_enter Tryz.func63,Tryz.ntmps63
  go_upto_region 1 with (fail)
  rw[←HB.out.1,←HB.out.2]
  go_wp2
  rw[bI.out];exact⟨I,by (rw[HF.out];try rfl),Mem.le_refl _,H1.out.p1.drop⟩
 ·as_aux_lemma=>
  have HF:Hid (rv=true):=ah (by rw[bM.out];rfl)
  go_enter Tryz.func63,Tryz.ntmps63
  go_upto_region 1 with (fail)
  rw[←HB.out.1,←HB.out.2]
  go_wp2
  rw[bI.out];exact⟨I,by (rw[HF.out];try rfl),Mem.le_refl _,H1.out.p1.drop⟩
 ·as_aux_lemma=>
  have SC:=ah (qO B z x.cl HX.out.1.cl HX.out.2.cl H1.out);obtain⟨bl,hbl⟩:=aB (gW x.cl);obtain⟨b0,hb0⟩:=aB (aN z.u 0 2);obtain⟨b1,hb1⟩:=aB (aN z.q 0 1);have C0:Hid (∀w',Calls Tryz.prog 60 #[.int .i64 z.u,.int .i64 0,.int .i64 2] w' fun e w''=>e=.returned (.bool b0)∧w'=w''):=ah fun w'=>by rw[hb0];exact bG _ _ _ w'
  have C1:Hid (∀w',Calls Tryz.prog 60 #[.int .i64 z.q,.int .i64 0,.int .i64 1] w' fun e w''=>e=.returned (.bool b1)∧w'=w''):=ah fun w'=>by rw[hb1];exact bG _ _ _ w'
  have k13:=(au H1.out.p1 13 _ rfl).1;obtain⟨nc,hnc⟩:=aB (z.cl.n);have ZR:w1.cell? ⟨B,13,none⟩=some (.slice z.cl.a nc z.cl.c):=by rw[hnc];exact k13
  have hn63:(nc:Int)≤9223372036854775807:=by rw[hnc];exact (aI HX.out.1.cl).2.2
  have HR:Hid (rv=(b0&&(b1&&((decide (z.u=2)&&bl)||(decide (z.u<2)&&decide (nc=0)))))):=ah (by
   have h0:rv=(aN z.u 0 2&&(aN z.q 0 1&&((decide (z.u=2)&&gW x.cl)||(decide (z.u<2)&&decide (x.cl.length=0))))):=by rw[bM.out];rfl
   rw[h0,hb0,hb1,hbl,hnc,(aI HX.out.1.cl).1])
  rw[←hbl] at SC;clear hbl hb0 hb1 hnc k13
  go_enter Tryz.func63,Tryz.ntmps63
  go_upto_region 1 with (fail)
  rw[←HB.out.1,←HB.out.2]
  go_wp2_with fail
  refine (C0.out _).mono ?_;rintro e w2 ⟨rfl,rfl⟩;cases b0 with
  | false=>
   have HF:Hid (rv=false):=ah (by rw[HR.out];rfl)
   go_wp2
   rw[bI.out];exact⟨I,by (rw[HF.out];try rfl),Mem.le_refl _,H1.out.p1.drop⟩
  | true=>
   go_wp2_with fail
   refine (C1.out _).mono ?_;rintro e w2 ⟨rfl,rfl⟩;cases b1 with
   | false=>
    have HF:Hid (rv=false):=ah (by rw[HR.out];rfl)
    go_wp2
    rw[bI.out];exact⟨I,by (rw[HF.out];try rfl),Mem.le_refl _,H1.out.p1.drop⟩
   | true=>
    by_cases u2:z.u=2
    ·have u2b:(z.u==2)=true:=by simpa using u2
     have u2l:¬z.u<2:=by omega
     have HR2:Hid (rv=bl):=ah (by rw[HR.out,decide_eq_true u2,decide_eq_false u2l];cases bl<;>rfl);clear u2
     go_wp2_with fail
     refine SC.out.mono ?_;rintro e w2 ⟨rfl,h2⟩;have H2:=ah h2;clear h2 SC H1 k0 k5 k6 k7 k8 ZR;have k7:=(au H2.out.p1 7 _ rfl).1;cases bl with
     | false=>
      have HF:Hid (rv=false):=ah HR2.out
      go_wp2
      rw[bI.out];exact⟨I,by (rw[HF.out];try rfl),Mem.le_refl _,H2.out.p1.drop⟩
     | true=>
      have HF:Hid (rv=true):=ah HR2.out
      go_wp2
      rw[bI.out];exact⟨I,by (rw[HF.out];try rfl),Mem.le_refl _,H2.out.p1.drop⟩
    ·have u2b:(z.u==2)=false:=by simpa using u2
     by_cases ul:z.u<2
     ·by_cases n0:nc=0
      ·subst n0
       have HF:Hid (rv=true):=ah (by rw[HR.out,decide_eq_true ul];cases decide (z.u=2)<;>cases bl<;>rfl);clear u2
       go_wp2
       rw[bI.out];exact⟨I,by (rw[HF.out];try rfl),Mem.le_refl _,H1.out.p1.drop⟩
      ·have n0b:((nc:Int)==0)=false:=by simp;omega
       have HF:Hid (rv=false):=ah (by rw[HR.out,decide_eq_false u2,decide_eq_false n0];simp);clear u2 n0
       go_wp2
       rw[bI.out];exact⟨I,by (rw[HF.out];try rfl),Mem.le_refl _,H1.out.p1.drop⟩
     ·have HF:Hid (rv=false):=ah (by rw[HR.out,decide_eq_false u2,decide_eq_false ul];rfl)
      clear u2
      go_wp2
      rw[bI.out];exact⟨I,by (rw[HF.out];try rfl),Mem.le_refl _,H1.out.p1.drop⟩
 ·as_aux_lemma=>
  have HF:Hid (rv=true):=ah (by rw[bM.out];rfl)
  go_enter Tryz.func63,Tryz.ntmps63
  go_upto_region 1 with (fail)
  rw[←HB.out.1,←HB.out.2]
  go_wp2
  rw[bI.out];exact⟨I,by (rw[HF.out];try rfl),Mem.le_refl _,H1.out.p1.drop⟩
 ·as_aux_lemma=>
  have SC:=ah (qO B z x.cl HX.out.1.cl HX.out.2.cl H1.out);obtain⟨bl,hbl⟩:=aB (gW x.cl);have HF:Hid (rv=bl):=ah (by rw[bM.out,hbl];rfl);rw[←hbl] at SC;clear hbl
  go_enter Tryz.func63,Tryz.ntmps63
  go_upto_region 1 with (fail)
  rw[←HB.out.1,←HB.out.2]
  go_wp2_with fail
  refine SC.out.mono ?_;rintro e w2 ⟨rfl,h2⟩;have H2:=ah h2;clear h2 SC H1 k0 k5 k6 k7 k8
  go_wp2
  rw[bI.out];exact⟨I,by (rw[HF.out];try rfl),Mem.le_refl _,H2.out.p1.drop⟩
 ·as_aux_lemma=>
  have MF:=ah (fun w' A' (h':Sat W w' (sep (blk B (.cells z.cells.toArray 36 (0,0))) A'))=>vM B z h');have k9:=(au H1.out.p1 9 _ rfl).1;have k10:=(au H1.out.p1 10 _ rfl).1;have HSH:=ah (Ro z.sn z.sd (by rw[HX.out.1.sn,HX.out.1.sd];exact HX.out.2.sh) H1.out.p1);obtain⟨bp,hbp⟩:=aB ((aN z.q 1 4095&&decide (z.q≠z.p)));have HR:Hid (rv=(bp&&((okR ⟨z.sn,z.sd⟩&&decide (z.sn≤z.sd))&&decide (0<z.sn)))):=ah (by
   have h0:rv=(DV x&&IY x.sn x.sd):=by rw[bM.out];rfl
   rw[h0,hbp];unfold IY DV;rw[HX.out.1.q,HX.out.1.p,HX.out.1.sn,HX.out.1.sd];simp only[Bool.and_assoc])
  rw[←hbp] at MF;clear hbp
  go_enter Tryz.func63,Tryz.ntmps63
  go_upto_region 1 with (fail)
  rw[←HB.out.1,←HB.out.2]
  go_wp2_with fail
  refine HSH.out.mono ?_;rintro e w2 ⟨c,r,rfl,hcr,h2⟩;have H2:=ah h2;have HC:=ah hcr;clear h2 hcr HSH H1 k0 k5 k6 k7 k8 k9 k10;have k9:=(au H2.out 9 _ rfl).1;have HP2:=ah (MF.out w2 _ H2.out);clear MF
  go_wp2_with fail
  refine HP2.out.mono ?_;rintro e w3 ⟨rfl,rfl⟩;cases bp with
  | false=>
   have HF:Hid (rv=false):=ah (by rw[HR.out];rfl)
   go_wp2
   rw[bI.out];exact⟨I,by (rw[HF.out];try rfl),Mem.le_refl _,H2.out.drop⟩
  | true=>
   obtain⟨r0,hr0⟩:=aB ((r==0));have ahs:(r==0)=r0:=hr0.symm;have HC2:Hid ((r0&&decide (c≤0))=(okR ⟨z.sn,z.sd⟩&&decide (z.sn≤z.sd))):=ah (by rw[hr0];exact HC.out);clear hr0;cases r0 with
   | false=>
    have HF:Hid (rv=false):=ah (by rw[HR.out,←HC2.out];rfl)
    go_wp2
    rw[bI.out];exact⟨I,by (rw[HF.out];try rfl),Mem.le_refl _,H2.out.drop⟩
   | true=>
    by_cases hc0:c≤0
    ·by_cases hn0:0<z.sn
     ·have HF:Hid (rv=true):=ah (by rw[HR.out,←HC2.out,decide_eq_true hc0,decide_eq_true hn0];rfl)
      go_wp2
      rw[bI.out];exact⟨I,by (rw[HF.out];first|done|(simp;done)|(simp;omega);try rfl),Mem.le_refl _,H2.out.drop⟩
     ·have HF:Hid (rv=false):=ah (by rw[HR.out,decide_eq_false hn0];simp)
      go_wp2
      rw[bI.out];exact⟨I,by (rw[HF.out];first|done|(simp;done)|(simp;omega);try rfl),Mem.le_refl _,H2.out.drop⟩
    ·have HF:Hid (rv=false):=ah (by rw[HR.out,←HC2.out,decide_eq_false hc0];rfl)
     go_wp2
     rw[bI.out];exact⟨I,by (rw[HF.out];first|done|(simp;done)|(simp;omega);try rfl),Mem.le_refl _,H2.out.drop⟩
 ·as_aux_lemma=>
  have MF:=ah (vM B z H1.out.p1);have XG:=ah (tN B z H1.out.p1);obtain⟨bp,hbp⟩:=aB ((aN z.q 1 4095&&decide (z.q≠z.p)));obtain⟨bl,hbl⟩:=aB (aN z.u z.d 131072);have HR:Hid (rv=(bp&&bl)):=ah (by
   have h0:rv=(DV x&&jf x):=by rw[bM.out];rfl
   rw[h0,hbp,hbl];unfold jf DV;rw[HX.out.1.u,HX.out.1.d,HX.out.1.q,HX.out.1.p])
  rw[←hbl] at XG;rw[←hbp] at MF;clear hbl hbp
  go_enter Tryz.func63,Tryz.ntmps63
  go_upto_region 1 with (fail)
  rw[←HB.out.1,←HB.out.2]
  go_wp2_with fail
  refine MF.out.mono ?_;rintro e w2 ⟨rfl,rfl⟩;cases bp with
  | false=>
   have HF:Hid (rv=false):=ah (by rw[HR.out];rfl)
   go_wp2
   rw[bI.out];exact⟨I,by (rw[HF.out];try rfl),Mem.le_refl _,H1.out.p1.drop⟩
  | true=>
   go_wp2_with fail
   refine XG.out.mono ?_;rintro e w2 ⟨rfl,rfl⟩;have HF:Hid (rv=bl):=ah (by rw[HR.out];cases bl<;>rfl)
   go_wp2
   rw[bI.out];exact⟨I,by (rw[HF.out];try rfl),Mem.le_refl _,H1.out.p1.drop⟩
 ·as_aux_lemma=>
  obtain⟨b0,hb0⟩:=aB (aN z.u 0 7);have C0:Hid (∀w',Calls Tryz.prog 60 #[.int .i64 z.u,.int .i64 0,.int .i64 7] w' fun e w''=>e=.returned (.bool b0)∧w'=w''):=ah fun w'=>by rw[hb0];exact bG _ _ _ w'
  have HR:Hid (rv=(b0)):=ah (by
   have h0:rv=(aN z.u 0 7):=by rw[bM.out];rfl
   rw[h0,←hb0])
  clear hb0
  go_enter Tryz.func63,Tryz.ntmps63
  go_upto_region 1 with (fail)
  rw[←HB.out.1,←HB.out.2]
  go_wp2_with fail
  refine (C0.out _).mono ?_;rintro e w2 ⟨rfl,rfl⟩;have HF:Hid (rv=b0):=ah (by rw[HR.out];try (cases b0<;>rfl))
  go_wp2
  rw[bI.out];exact⟨I,by (rw[HF.out];try rfl),Mem.le_refl _,H1.out.p1.drop⟩
 ·as_aux_lemma=>
  have k15:=(au H1.out.p1 15 _ rfl).1;have k16:=(au H1.out.p1 16 _ rfl).1;have k17:=(au H1.out.p1 17 _ rfl).1;have k18:=(au H1.out.p1 18 _ rfl).1;have sG:=ah (lF x.fx z.fo z.fn z.fi.a z.fi.n z.fi.c z.fk.a z.fk.n z.fk.c HX.out.1.fx HX.out.2.fx.1 HX.out.2.fx.2 H1.out);obtain⟨fe,hfe⟩:=aB (jV x.fx);have HR:Hid (rv=decide (fe=0)):=ah (by rw[bM.out,hfe];rfl);rw[←hfe] at sG;clear hfe
  go_enter Tryz.func63,Tryz.ntmps63
  go_upto_region 1 with (fail)
  rw[←HB.out.1,←HB.out.2]
  go_wp2_with fail
  refine sG.out.mono ?_;rintro e w2 ⟨rfl,h2⟩;have H2:=ah h2;clear h2 sG H1 k0 k5 k6 k7 k8 k15 k16 k17 k18;obtain⟨fb,hfb⟩:=aB ((fe==0));have ahk:(fe==0)=fb:=hfb.symm;have HF:Hid (rv=fb):=ah (by
   rw[HR.out,hfb]
   by_cases h:fe=0
   ·rw[h];simp
   ·rw[decide_eq_false h];simpa using h)
  clear hfb
  go_wp2
  rw[bI.out];exact⟨I,by (rw[HF.out];try rfl),Mem.le_refl _,H2.out.p1.drop⟩
 ·as_aux_lemma=>
  have XG:=ah (tN B z H1.out.p1);obtain⟨bl,hbl⟩:=aB (aN z.u z.d 131072);have HF:Hid (rv=bl):=ah (by
   have h0:rv=jf x:=by rw[bM.out];rfl
   rw[h0,hbl];unfold jf;rw[HX.out.1.u,HX.out.1.d])
  rw[←hbl] at XG;clear hbl
  go_enter Tryz.func63,Tryz.ntmps63
  go_upto_region 1 with (fail)
  rw[←HB.out.1,←HB.out.2]
  go_wp2_with fail
  refine XG.out.mono ?_;rintro e w2 ⟨rfl,rfl⟩
  go_wp2
  rw[bI.out];exact⟨I,by (rw[HF.out];try rfl),Mem.le_refl _,H1.out.p1.drop⟩
 ·as_aux_lemma=>
  obtain⟨b0,hb0⟩:=aB (aN z.u 0 18);have C0:Hid (∀w',Calls Tryz.prog 60 #[.int .i64 z.u,.int .i64 0,.int .i64 18] w' fun e w''=>e=.returned (.bool b0)∧w'=w''):=ah fun w'=>by rw[hb0];exact bG _ _ _ w'
  obtain⟨b1,hb1⟩:=aB (aN z.m 0 1099511627776);have C1:Hid (∀w',Calls Tryz.prog 60 #[.int .i64 z.m,.int .i64 0,.int .i64 1099511627776] w' fun e w''=>e=.returned (.bool b1)∧w'=w''):=ah fun w'=>by rw[hb1];exact bG _ _ _ w'
  have HR:Hid (rv=(b0&&b1)):=ah (by
   have h0:rv=(aN z.u 0 18&&aN z.m 0 1099511627776):=by rw[bM.out];rfl
   rw[h0,←hb0,←hb1])
  clear hb0 hb1
  go_enter Tryz.func63,Tryz.ntmps63
  go_upto_region 1 with (fail)
  rw[←HB.out.1,←HB.out.2]
  go_wp2_with fail
  refine (C0.out _).mono ?_;rintro e w2 ⟨rfl,rfl⟩;cases b0 with
  | false=>
   have HF:Hid (rv=false):=ah (by rw[HR.out];rfl)
   go_wp2
   rw[bI.out];exact⟨I,by (rw[HF.out];try rfl),Mem.le_refl _,H1.out.p1.drop⟩
  | true=>
   go_wp2_with fail
   refine (C1.out _).mono ?_;rintro e w2 ⟨rfl,rfl⟩;have HF:Hid (rv=b1):=ah (by rw[HR.out];try (cases b1<;>rfl))
   go_wp2
   rw[bI.out];exact⟨I,by (rw[HF.out];try rfl),Mem.le_refl _,H1.out.p1.drop⟩
end Go.Proofs.YthfmaclnccdcbaaGreatDoor
namespace PA
open Go Go.RowKit
def bB (z:Ac):Nat→Bool
 | 0=>z.f !=0
 | 1=>z.o !=0
 | 2=>z.p !=0
 | 3=>z.q !=0
 | 4=>z.u !=0
 | 5=>z.m !=0
 | 6=>(!(z.sn==0)||!(z.sd==0))
 | 7=>decide (0<IntKind.i64.wrap ((z.td.n:Int)+(z.tc.n:Int)))
 | 8=>decide (0<z.cl.n)
 | 9=>decide (0<z.ea.n)
 | _=>(z.fo !=0)||((z.fn !=0)||decide (0<IntKind.i64.wrap ((z.fi.n:Int)+(z.fk.n:Int))))
def insL:List (Nat×Int×Nat):=[(4,1,0),(8,2,1),(12,4,2),(16,8,3),(20,16,4),(24,32,5),(29,64,6),(40,128,7),(45,256,8),(50,512,9),(69,1024,10)]
def xP (B:Nat→Bool) (f:Nat→Option Value) (k:Int):Option Value:=
 match insL.find? (fun p=>p.2.1==k) with
 | some p=>if (f p.1).isSome=true then some (.bool (B p.2.2)) else none
 | none=>none
def mapA (B:Nat→Bool) (k:Int):Option Value:=(insL.find? (fun p=>p.2.1==k)).map fun p=>.bool (B p.2.2)
theorem QU:∀p∈insL,insL.find? (fun q=>q.2.1==p.2.1)=some p:=by decide
theorem Un:∀p∈insL,∀q∈insL,q.1=p.1→q.2.1=p.2.1:=by decide
theorem lX {B:Nat→Bool} {f:Nat→Option Value} {k:Int} {q:Nat×Int×Nat} (h:insL.find? (fun p=>p.2.1==k)=some q):xP B f k=if (f q.1).isSome=true then some (.bool (B q.2.2)) else none:=by unfold xP;rw[h]
theorem oN {B:Nat→Bool} {f:Nat→Option Value} {k:Int} (h:insL.find? (fun p=>p.2.1==k)=none):xP B f k=none:=by unfold xP;rw[h]
theorem qm {k:Int} {q:Nat×Int×Nat} (h:insL.find? (fun p=>p.2.1==k)=some q):q∈insL∧q.2.1=k:=by
 refine⟨List.mem_of_find?_eq_some h,?_⟩;have:=List.find?_some h;simpa using this
theorem Uu (B:Nat→Bool) (f:Nat→Option Value) (u:Value) (p:Nat×Int×Nat) (hp:p∈insL):lM (xP B f) p.2.1 (some (.bool (B p.2.2)))=xP B (fG f p.1 u):=by
 funext k;unfold lM
 by_cases hk:k=p.2.1
 ·rw[if_pos hk,hk,lX (QU p hp),dw];rfl
 ·rw[if_neg hk]
  cases hq:insL.find? (fun p=>p.2.1==k) with
  | none=>rw[oN hq,oN hq]
  | some q=>
   obtain⟨h1,h2⟩:=qm hq;rw[lX hq,lX hq,aK];intro e;exact hk (by rw[←h2];exact Un p hp q h1 e)
theorem QY (B:Nat→Bool) {f:Nat→Option Value} (h:∀p∈insL,f p.1=none):xP B f=fun _=>none:=by
 funext k;cases hq:insL.find? (fun p=>p.2.1==k) with
 | none=>rw[oN hq]
 | some q=>rw[lX hq,h q (qm hq).1];rfl
theorem Du (B:Nat→Bool) {f:Nat→Option Value} (h:∀p∈insL,(f p.1).isSome=true):xP B f=mapA B:=by
 funext k;unfold mapA;cases hq:insL.find? (fun p=>p.2.1==k) with
 | none=>rw[oN hq];rfl
 | some q=>rw[lX hq,h q (qm hq).1];rfl
theorem Ol (B:Nat→Bool) {f g:Nat→Option Value} (h:∀p∈insL,g p.1=f p.1):xP B g=xP B f:=by
 funext k;cases hq:insL.find? (fun p=>p.2.1==k) with
 | none=>rw[oN hq,oN hq]
 | some q=>rw[lX hq,lX hq,h q (qm hq).1]
theorem Dj:∀p∈insL,p.1≠0:=by decide
def fB:Nat→List Nat:=fun x=>if x=0 then [] else [0]
def nH (B:Nat→Bool) (X:aC) (f:Nat→Option Value):aC:=
 match f 0 with
 | none=>X
 | some v=>ex fun p:Nat×Nat=>sep (fact (v=.map (some p.1))) (sep (wB p.1 (xP B f) p.2) X)
theorem nI {B:Nat→Bool} {X:aC} {f:Nat→Option Value} (h:f 0=none):nH B X f=X:=by unfold nH;rw[h]
theorem jD {W w:World} {B:Nat→Bool} {X:aC} {f:Nat→Option Value} {v:Value} (h:f 0=some v):Sat W w (nH B X f)↔∃b n,v=.map (some b)∧Sat W w (sep (wB b (xP B f) n) X):=by
 unfold nH;rw[h];simp only;rw[Sat.ex];exact⟨fun ⟨⟨b,n⟩,h⟩=>⟨b,n,Sat.fact.1 h⟩,fun ⟨b,n,h⟩=>⟨(b,n),Sat.fact.2 h⟩⟩
theorem G9 {W w:World} {B:Nat→Bool} {X:aC} {f:Nat→Option Value} (h:Sat W w (nH B X f)):Sat W w X:=by
 cases h0:f 0 with
 | none=>rwa [nI h0] at h
 | some v=>
  obtain⟨b,n,-,h1⟩:=(jD h0).1 h;obtain⟨es,clock,-,-,-,h2⟩:=h1.mF;exact h2.forget
theorem yH {W w:World} {B:Nat→Bool} {X:aC} {f:Nat→Option Value} (h0:f 0=none) (hn:∀p∈insL,f p.1=none) (h:Sat W w (nH B X f)):Sat W (w.alloc (.map #[] 0)) (nH B X (fG f 0 (.map (some w.heap.size)))):=by
 rw[nI h0] at h;refine (jD dw).2 ⟨w.heap.size,0,rfl,?_⟩;have h1:Sat W (w.alloc (.map #[] 0)) (sep (wB w.heap.size (fun _=>none) 0) X):=h.JB;rw[Ol B (g:=fG f 0 (.map (some w.heap.size))) (f:=f) (fun p hp=>aK (Dj p hp)),QY B hn];exact h1
theorem bJ {P:Program} {W w:World} {B:Nat→Bool} {X:aC} {f:Nat→Option Value} {T K E:TypeId} (hT:P.underlying T=some (.map K E)) (hK:P.underlying K=some (.int .i64)) (p:Nat×Int×Nat) (hp:p∈insL) (u:Value) {v:Value} (h0:f 0=some v) (h:Sat W w (nH B X f)):
 ∃b w',v=.map (some b)∧(Instr.mapUpdate T (.map (some b)) (.int .i64 p.2.1) (.bool (B p.2.2))).run P w=.ok () w'∧Sat W w' (nH B X (fG f p.1 u)):=by
 obtain⟨b,n,rfl,h1⟩:=(jD h0).1 h;obtain⟨w',n',hr,-,h2⟩:=lT hT hK h1 p.2.1 (.bool (B p.2.2));refine⟨b,w',rfl,hr,?_⟩;have hne:fG f p.1 u 0=some (.map (some b)):=by
  rw[aK (Ne.symm (Dj p hp))];exact h0
 refine (jD hne).2 ⟨b,n',rfl,?_⟩;rw[←Uu B f u p hp];exact h2
end PA
namespace PA
open Go Go.RowKit
theorem PU (I:Mem) (k d n f o p q u m sn sd:Int):kX I ⟨k,d,n,f,o,p,q,u,m,sn,sd,ak,ak,ak,ak,0,0,ak,ak⟩ ⟨k,d,n,f,o,p,q,u,m,sn,sd,[],[],[],[],Fm.zero⟩:=
 ⟨rfl,rfl,rfl,rfl,rfl,rfl,rfl,rfl,rfl,rfl,rfl,aF _ _ _,aF _ _ _,aF _ _ _,aF _ _ _,dS I⟩
theorem PV {k d n f o p q u m sn sd:Int} (h:iK k∧iK d∧iK n∧iK f∧iK o∧iK p∧iK q∧iK u∧iK m∧iK sn∧iK sd):wo 0 ⟨k,d,n,f,o,p,q,u,m,sn,sd,[],[],[],[],Fm.zero⟩:=by
 have hz:=wo.zero;exact⟨(jF _).2 h,hz.td,hz.tn,hz.tc,hz.cl,hz.en,hz.ea,hz.fx⟩
end PA

/- Part of a proof. -/
import Derived.Test.YthfmaclnccdcbaaGreatDoorZFO28
namespace Go.Proofs.YthfmaclnccdcbaaGreatDoor
open Go.RowKit PA
attribute [local go_sem ↓] aY bI aV
set_option maxRecDepth 100000 in
set_option maxHeartbeats 8000000 in
theorem Gt {W w:World} {A:aB} {I:Mem} (z:Ac) (x:Pa) (hA:lT I z x) (hz:YK x) (h:Sat W w (sep (kn I) A)):
 Calls Tryz.prog 67 #[.agg z.cells.toArray] w fun e w'=>∃J,e=.returned (.bool (aQ x))∧Mem.le I J∧Sat W w' (sep (kn J) A):=by
 have h1:=(h.alloc (.cells z.cells.toArray 36)).p1;obtain⟨B,hB⟩:=aC (w.heap.size);obtain⟨w1,hw1⟩:=aC (w.alloc (.cells z.cells.toArray 36));rw[←hB,←hw1] at h1;have HB:=ah (aH hB hw1);have hld:=iq h1.p1;have k0:=(ay h1.p1 0 _ rfl).1;have k1:=(ay h1.p1 1 _ rfl).1;have k4:=(ay h1.p1 4 _ rfl).1;have k5:=(ay h1.p1 5 _ rfl).1;have k6:=(ay h1.p1 6 _ rfl).1;have k7:=(ay h1.p1 7 _ rfl).1;have k8:=(ay h1.p1 8 _ rfl).1;have k9:=(ay h1.p1 9 _ rfl).1;have k10:=(ay h1.p1 10 _ rfl).1;have k13:=(ay h1.p1 13 _ rfl).1;have k15:=(ay h1.p1 15 _ rfl).1;have k16:=(ay h1.p1 16 _ rfl).1;have k17:=(ay h1.p1 17 _ rfl).1;have k18:=(ay h1.p1 18 _ rfl).1;obtain⟨kz,hkz⟩:=aC (z.k);rw[←hkz] at k0;obtain⟨rv,dQ⟩:=aC (aQ x);obtain⟨pa,hpa⟩:=aC (oZ x);obtain⟨lt,hlt⟩:=aC (jB x);have HK:Hid (x.k=kz):=ah (by rw[hkz,hA.k]);have CW:Hid (∀n lo hi w',Calls Tryz.prog 66 #[.int .i64 n,.int .i64 lo,.int .i64 hi] w' fun e w''=>e=.returned (.bool (aP n lo hi))∧w'=w''):=ah fun n lo hi w'=>dZ n lo hi w'
 have CL:Hid (∀w',Calls Tryz.prog 66 #[.int .i64 z.u,.int .i64 z.d,.int .i64 131072] w' fun e w''=>e=.returned (.bool lt)∧w'=w''):=ah fun w'=>by rw[hlt];unfold jB;rw[←hA.u,←hA.d];exact dZ _ _ _ w'
 have HA:=ah (aH hA hz);have bU:=ah dQ;have OL:=ah hpa.symm;have KF:=ah hlt.symm;have U7:Hid (pa=(aP z.p 1 4095&&(aP z.q 1 4095&&decide (z.p≠z.q)))):=ah (by rw[hpa];unfold oZ;rw[hA.p,hA.q]);have H1:=ah h1;rw[←dQ];obtain⟨Po,dS⟩:∃P:Ending→World→Prop,P=fun e w'=>∃J,e=.returned (.bool rv)∧Mem.le I J∧Sat W w' (sep (kn J) A):=⟨_,rfl⟩
 rw[←dS];have bK:=ah dS;clear hA hz h h1 hB hw1 hkz dQ hpa hlt dS;go_enter Tryz.func67,Tryz.ntmps67;go_upto_region 1 with fail;rw[←HB.out.1,←HB.out.2];go_cut [3] from 8 to 22 (fun v wx=>v=.bool pa∧wx=w1)
 case first=>
  as_aux_lemma=>
  obtain⟨b1,hb1⟩:=aC (aP z.p 1 4095);obtain⟨b2,hb2⟩:=aC (aP z.q 1 4095);have C1:Hid (∀w',Calls Tryz.prog 66 #[.int .i64 z.p,.int .i64 1,.int .i64 4095] w' fun e w''=>e=.returned (.bool b1)∧w'=w''):=ah fun w'=>by rw[hb1];exact CW.out _ _ _ w'
  have C2:Hid (∀w',Calls Tryz.prog 66 #[.int .i64 z.q,.int .i64 1,.int .i64 4095] w' fun e w''=>e=.returned (.bool b2)∧w'=w''):=ah fun w'=>by rw[hb2];exact CW.out _ _ _ w'
  rw[←hb1,←hb2] at U7;clear hb1 hb2 CW CL;cases b1 with
  | false=>
   go_wp2_with fail;refine (C1.out _).mono ?_;rintro e w2 ⟨rfl,rfl⟩;go_wp2;go_meet;case rel=>exact⟨by rw[U7.out];rfl,rfl⟩
  | true=>
   cases b2 with
   | false=>
    go_wp2_with fail;refine (C1.out _).mono ?_;rintro e w2 ⟨rfl,rfl⟩;go_wp2_with fail;refine (C2.out _).mono ?_;rintro e w2 ⟨rfl,rfl⟩;go_wp2;go_meet;case rel=>exact⟨by rw[U7.out];rfl,rfl⟩
   | true=>
    go_wp2_with fail;refine (C1.out _).mono ?_;rintro e w2 ⟨rfl,rfl⟩;go_wp2_with fail;refine (C2.out _).mono ?_;rintro e w2 ⟨rfl,rfl⟩;go_wp2;go_meet;case rel=>exact⟨by rw[U7.out];by_cases hh:z.p=z.q<;>simp[hh],rfl⟩
 case rest=>
  obtain⟨rfl,rfl⟩:=hcut;clear U7;go_wp2_with fail;refine (CL.out _).mono ?_;rintro e w2 ⟨rfl,rfl⟩;clear CL;have hcase:kz=0∨kz=3∨kz=15∨kz=4∨kz=5∨kz=6∨kz=7∨kz=8∨kz=9∨kz=12∨kz=14∨kz=13∨kz=16∨kz=17∨kz=18∨kz=19∨kz=20∨kz=21∨(kz≠0∧kz≠3∧kz≠15∧kz≠4∧kz≠5∧kz≠6∧kz≠7∧kz≠8∧kz≠9∧kz≠12∧kz≠14∧kz≠13∧kz≠16∧kz≠17∧kz≠18∧kz≠19∧kz≠20∧kz≠21):=by omega
  rcases hcase with rfl|rfl|rfl|rfl|rfl|rfl|rfl|rfl|rfl|rfl|rfl|rfl|rfl|rfl|rfl|rfl|rfl|rfl|hn
  ·
   as_aux_lemma=>
   obtain⟨fb,hfb⟩:=aC (qm x);have C:Hid (∀w' A',Sat W w' (sep (kn I) A')→Calls Tryz.prog 119 #[.agg z.cells.toArray] w' fun e w''=>∃J,e=.returned (.bool fb)∧Mem.le I J∧Sat W w'' (sep (kn J) A')):=ah fun w' A' h'=>by rw[hfb];exact Gs z x HA.out.1 HA.out.2 h'
   have HF:Hid (rv=fb):=ah (by rw[bU.out,hfb];simp[aQ,HK.out]);clear hfb CW;go_wp2_with fail;refine (C.out _ _ H1.out).mono ?_;rintro e w2 ⟨J,rfl,hle,h2⟩;have H2:=ah (aH hle h2.p1.drop);clear hle h2 H1 C hld k0 k1 k4 k5 k6 k7 k8 k9 k10 k13 k15 k16 k17 k18;go_wp2;rw[bK.out];exact⟨J,(by rw[HF.out];try rfl),H2.out.1,H2.out.2⟩
  ·
   as_aux_lemma=>
   obtain⟨fb,hfb⟩:=aC (gZ x.cl);have C:Hid (∀w' A',Sat W w' (sep (kn I) A')→Calls Tryz.prog 120 #[.slice z.cl.a z.cl.n z.cl.c] w' fun e w''=>e=.returned (.bool fb)∧Sat W w'' (sep (kn I) A')):=ah fun w' A' h'=>by rw[hfb];exact qK _ _ _ x.cl HA.out.1.cl HA.out.2.cl h'
   have HF:Hid (rv=fb):=ah (by rw[bU.out,hfb];simp[aQ,HK.out]);clear hfb CW;go_wp2_with fail;refine (C.out _ _ H1.out).mono ?_;rintro e w2 ⟨rfl,h2⟩;have H2:=ah h2.p1.drop;clear h2 H1 C hld k0 k1 k4 k5 k6 k7 k8 k9 k10 k13 k15 k16 k17 k18;go_wp2;rw[bK.out];exact⟨I,(by rw[HF.out];try rfl),bW _,H2.out⟩
  ·
   as_aux_lemma=>
   obtain⟨fb,hfb⟩:=aC (gZ x.cl);have C:Hid (∀w' A',Sat W w' (sep (kn I) A')→Calls Tryz.prog 120 #[.slice z.cl.a z.cl.n z.cl.c] w' fun e w''=>e=.returned (.bool fb)∧Sat W w'' (sep (kn I) A')):=ah fun w' A' h'=>by rw[hfb];exact qK _ _ _ x.cl HA.out.1.cl HA.out.2.cl h'
   have HF:Hid (rv=fb):=ah (by rw[bU.out,hfb];simp[aQ,HK.out]);clear hfb CW;go_wp2_with fail;refine (C.out _ _ H1.out).mono ?_;rintro e w2 ⟨rfl,h2⟩;have H2:=ah h2.p1.drop;clear h2 H1 C hld k0 k1 k4 k5 k6 k7 k8 k9 k10 k13 k15 k16 k17 k18;go_wp2;rw[bK.out];exact⟨I,(by rw[HF.out];try rfl),bW _,H2.out⟩
  ·
   as_aux_lemma=>
   obtain⟨b0,hb0⟩:=aC (aP z.u 0 5);have C0:Hid (∀w',Calls Tryz.prog 66 #[.int .i64 z.u,.int .i64 0,.int .i64 5] w' fun e w''=>e=.returned (.bool b0)∧w'=w''):=ah fun w'=>by rw[hb0];exact CW.out _ _ _ w'
   have X0:Hid (aP x.u 0 5=b0):=ah (by rw[hb0,HA.out.1.u]);clear hb0;obtain⟨b1,hb1⟩:=aC (aP z.u 7 66);have C1:Hid (∀w',Calls Tryz.prog 66 #[.int .i64 z.u,.int .i64 7,.int .i64 66] w' fun e w''=>e=.returned (.bool b1)∧w'=w''):=ah fun w'=>by rw[hb1];exact CW.out _ _ _ w'
   have X1:Hid (aP x.u 7 66=b1):=ah (by rw[hb1,HA.out.1.u]);clear hb1;obtain⟨b2,hb2⟩:=aC (aP z.p 1 4095);have C2:Hid (∀w',Calls Tryz.prog 66 #[.int .i64 z.p,.int .i64 1,.int .i64 4095] w' fun e w''=>e=.returned (.bool b2)∧w'=w''):=ah fun w'=>by rw[hb2];exact CW.out _ _ _ w'
   have X2:Hid (aP x.p 1 4095=b2):=ah (by rw[hb2,HA.out.1.p]);clear hb2;obtain⟨b3,hb3⟩:=aC (aP z.p 1 4095);have C3:Hid (∀w',Calls Tryz.prog 66 #[.int .i64 z.p,.int .i64 1,.int .i64 4095] w' fun e w''=>e=.returned (.bool b3)∧w'=w''):=ah fun w'=>by rw[hb3];exact CW.out _ _ _ w'
   have X3:Hid (aP x.p 1 4095=b3):=ah (by rw[hb3,HA.out.1.p]);clear hb3;obtain⟨b4,hb4⟩:=aC (aP z.q 0 7);have C4:Hid (∀w',Calls Tryz.prog 66 #[.int .i64 z.q,.int .i64 0,.int .i64 7] w' fun e w''=>e=.returned (.bool b4)∧w'=w''):=ah fun w'=>by rw[hb4];exact CW.out _ _ _ w'
   have X4:Hid (aP x.q 0 7=b4):=ah (by rw[hb4,HA.out.1.q]);clear hb4;obtain⟨b5,hb5⟩:=aC (aP z.m 1 1099511627776);have C5:Hid (∀w',Calls Tryz.prog 66 #[.int .i64 z.m,.int .i64 1,.int .i64 1099511627776] w' fun e w''=>e=.returned (.bool b5)∧w'=w''):=ah fun w'=>by rw[hb5];exact CW.out _ _ _ w'
   have X5:Hid (aP x.m 1 1099511627776=b5):=ah (by rw[hb5,HA.out.1.m]);clear hb5;clear CW;cases b0 with
   | false=>
    cases b1 with
    | false=>
     cases b3 with
     | false=>
      go_wp2_with fail;refine (C0.out _).mono ?_;rintro e w2 ⟨rfl,rfl⟩;go_wp2_with fail;refine (C1.out _).mono ?_;rintro e w2 ⟨rfl,rfl⟩;go_wp2_with fail;refine (C3.out _).mono ?_;rintro e w2 ⟨rfl,rfl⟩;have HF:Hid (rv=false):=ah (by rw[bU.out];simp[aQ,HK.out,X0.out,X1.out,X3.out]);clear hld;go_wp2;rw[bK.out];exact⟨I,(by rw[HF.out];try rfl),bW _,H1.out.p1.drop⟩
     | true=>
      go_wp2_with fail;refine (C0.out _).mono ?_;rintro e w2 ⟨rfl,rfl⟩;go_wp2_with fail;refine (C1.out _).mono ?_;rintro e w2 ⟨rfl,rfl⟩;go_wp2_with fail;refine (C3.out _).mono ?_;rintro e w2 ⟨rfl,rfl⟩;have HF:Hid (rv=false):=ah (by rw[bU.out];simp[aQ,HK.out,X0.out,X1.out,X3.out]);clear hld;go_wp2;rw[bK.out];exact⟨I,(by rw[HF.out];try rfl),bW _,H1.out.p1.drop⟩
    | true=>
     cases b2 with
     | false=>
      go_wp2_with fail;refine (C0.out _).mono ?_;rintro e w2 ⟨rfl,rfl⟩;go_wp2_with fail;refine (C1.out _).mono ?_;rintro e w2 ⟨rfl,rfl⟩;go_wp2_with fail;refine (C2.out _).mono ?_;rintro e w2 ⟨rfl,rfl⟩;have HF:Hid (rv=false):=ah (by rw[bU.out];simp[aQ,HK.out,X0.out,X1.out,X2.out]);clear hld;go_wp2;rw[bK.out];exact⟨I,(by rw[HF.out];try rfl),bW _,H1.out.p1.drop⟩
     | true=>
      cases b4 with
      | false=>
       go_wp2_with fail;refine (C0.out _).mono ?_;rintro e w2 ⟨rfl,rfl⟩;go_wp2_with fail;refine (C1.out _).mono ?_;rintro e w2 ⟨rfl,rfl⟩;go_wp2_with fail;refine (C2.out _).mono ?_;rintro e w2 ⟨rfl,rfl⟩;go_wp2_with fail;refine (C4.out _).mono ?_;rintro e w2 ⟨rfl,rfl⟩;have HF:Hid (rv=false):=ah (by rw[bU.out];simp[aQ,HK.out,X0.out,X1.out,X2.out,X4.out]);clear hld;go_wp2;rw[bK.out];exact⟨I,(by rw[HF.out];try rfl),bW _,H1.out.p1.drop⟩
      | true=>
       cases b5 with
       | false=>
        go_wp2_with fail;refine (C0.out _).mono ?_;rintro e w2 ⟨rfl,rfl⟩;go_wp2_with fail;refine (C1.out _).mono ?_;rintro e w2 ⟨rfl,rfl⟩;go_wp2_with fail;refine (C2.out _).mono ?_;rintro e w2 ⟨rfl,rfl⟩;go_wp2_with fail;refine (C4.out _).mono ?_;rintro e w2 ⟨rfl,rfl⟩;go_wp2_with fail;refine (C5.out _).mono ?_;rintro e w2 ⟨rfl,rfl⟩;have HF:Hid (rv=false):=ah (by rw[bU.out];simp[aQ,HK.out,X0.out,X1.out,X2.out,X4.out,X5.out]);clear hld;go_wp2;rw[bK.out];exact⟨I,(by rw[HF.out];try rfl),bW _,H1.out.p1.drop⟩
       | true=>
        go_wp2_with fail;refine (C0.out _).mono ?_;rintro e w2 ⟨rfl,rfl⟩;go_wp2_with fail;refine (C1.out _).mono ?_;rintro e w2 ⟨rfl,rfl⟩;go_wp2_with fail;refine (C2.out _).mono ?_;rintro e w2 ⟨rfl,rfl⟩;go_wp2_with fail;refine (C4.out _).mono ?_;rintro e w2 ⟨rfl,rfl⟩;go_wp2_with fail;refine (C5.out _).mono ?_;rintro e w2 ⟨rfl,rfl⟩;have HF:Hid (rv=true):=ah (by rw[bU.out];simp[aQ,HK.out,X0.out,X1.out,X2.out,X4.out,X5.out]);clear hld;go_wp2;rw[bK.out];exact⟨I,(by rw[HF.out];try rfl),bW _,H1.out.p1.drop⟩
   | true=>
    cases b2 with
    | false=>
     go_wp2_with fail;refine (C0.out _).mono ?_;rintro e w2 ⟨rfl,rfl⟩;go_wp2_with fail;refine (C2.out _).mono ?_;rintro e w2 ⟨rfl,rfl⟩;have HF:Hid (rv=false):=ah (by rw[bU.out];simp[aQ,HK.out,X0.out,X2.out]);clear hld;go_wp2;rw[bK.out];exact⟨I,(by rw[HF.out];try rfl),bW _,H1.out.p1.drop⟩
    | true=>
     cases b4 with
     | false=>
      go_wp2_with fail;refine (C0.out _).mono ?_;rintro e w2 ⟨rfl,rfl⟩;go_wp2_with fail;refine (C2.out _).mono ?_;rintro e w2 ⟨rfl,rfl⟩;go_wp2_with fail;refine (C4.out _).mono ?_;rintro e w2 ⟨rfl,rfl⟩;have HF:Hid (rv=false):=ah (by rw[bU.out];simp[aQ,HK.out,X0.out,X2.out,X4.out]);clear hld;go_wp2;rw[bK.out];exact⟨I,(by rw[HF.out];try rfl),bW _,H1.out.p1.drop⟩
     | true=>
      cases b5 with
      | false=>
       go_wp2_with fail;refine (C0.out _).mono ?_;rintro e w2 ⟨rfl,rfl⟩;go_wp2_with fail;refine (C2.out _).mono ?_;rintro e w2 ⟨rfl,rfl⟩;go_wp2_with fail;refine (C4.out _).mono ?_;rintro e w2 ⟨rfl,rfl⟩;go_wp2_with fail;refine (C5.out _).mono ?_;rintro e w2 ⟨rfl,rfl⟩;have HF:Hid (rv=false):=ah (by rw[bU.out];simp[aQ,HK.out,X0.out,X2.out,X4.out,X5.out]);clear hld;go_wp2;rw[bK.out];exact⟨I,(by rw[HF.out];try rfl),bW _,H1.out.p1.drop⟩
      | true=>
       go_wp2_with fail;refine (C0.out _).mono ?_;rintro e w2 ⟨rfl,rfl⟩;go_wp2_with fail;refine (C2.out _).mono ?_;rintro e w2 ⟨rfl,rfl⟩;go_wp2_with fail;refine (C4.out _).mono ?_;rintro e w2 ⟨rfl,rfl⟩;go_wp2_with fail;refine (C5.out _).mono ?_;rintro e w2 ⟨rfl,rfl⟩;have HF:Hid (rv=true):=ah (by rw[bU.out];simp[aQ,HK.out,X0.out,X2.out,X4.out,X5.out]);clear hld;go_wp2;rw[bK.out];exact⟨I,(by rw[HF.out];try rfl),bW _,H1.out.p1.drop⟩
  ·
   as_aux_lemma=>
   obtain⟨b0,hb0⟩:=aC (aP z.p 1 4095);have C0:Hid (∀w',Calls Tryz.prog 66 #[.int .i64 z.p,.int .i64 1,.int .i64 4095] w' fun e w''=>e=.returned (.bool b0)∧w'=w''):=ah fun w'=>by rw[hb0];exact CW.out _ _ _ w'
   have X0:Hid (aP x.p 1 4095=b0):=ah (by rw[hb0,HA.out.1.p]);clear hb0;obtain⟨b1,hb1⟩:=aC (aP z.u 0 1);have C1:Hid (∀w',Calls Tryz.prog 66 #[.int .i64 z.u,.int .i64 0,.int .i64 1] w' fun e w''=>e=.returned (.bool b1)∧w'=w''):=ah fun w'=>by rw[hb1];exact CW.out _ _ _ w'
   have X1:Hid (aP x.u 0 1=b1):=ah (by rw[hb1,HA.out.1.u]);clear hb1;clear CW;cases b0 with
   | false=>
    go_wp2_with fail;refine (C0.out _).mono ?_;rintro e w2 ⟨rfl,rfl⟩;have HF:Hid (rv=false):=ah (by rw[bU.out];simp[aQ,HK.out,X0.out]);clear hld;go_wp2;rw[bK.out];exact⟨I,(by rw[HF.out];try rfl),bW _,H1.out.p1.drop⟩
   | true=>
    cases b1 with
    | false=>
     go_wp2_with fail;refine (C0.out _).mono ?_;rintro e w2 ⟨rfl,rfl⟩;go_wp2_with fail;refine (C1.out _).mono ?_;rintro e w2 ⟨rfl,rfl⟩;have HF:Hid (rv=false):=ah (by rw[bU.out];simp[aQ,HK.out,X0.out,X1.out]);clear hld;go_wp2;rw[bK.out];exact⟨I,(by rw[HF.out];try rfl),bW _,H1.out.p1.drop⟩
    | true=>
     go_wp2_with fail;refine (C0.out _).mono ?_;rintro e w2 ⟨rfl,rfl⟩;go_wp2_with fail;refine (C1.out _).mono ?_;rintro e w2 ⟨rfl,rfl⟩;have HF:Hid (rv=true):=ah (by rw[bU.out];simp[aQ,HK.out,X0.out,X1.out]);clear hld;go_wp2;rw[bK.out];exact⟨I,(by rw[HF.out];try rfl),bW _,H1.out.p1.drop⟩
  ·
   as_aux_lemma=>
   obtain⟨b0,hb0⟩:=aC (aP z.u 0 255);have C0:Hid (∀w',Calls Tryz.prog 66 #[.int .i64 z.u,.int .i64 0,.int .i64 255] w' fun e w''=>e=.returned (.bool b0)∧w'=w''):=ah fun w'=>by rw[hb0];exact CW.out _ _ _ w'
   have X0:Hid (aP x.u 0 255=b0):=ah (by rw[hb0,HA.out.1.u]);clear hb0;clear CW;cases b0 with
   | false=>
    go_wp2_with fail;refine (C0.out _).mono ?_;rintro e w2 ⟨rfl,rfl⟩;have HF:Hid (rv=false):=ah (by rw[bU.out];simp[aQ,HK.out,X0.out]);clear hld;go_wp2;rw[bK.out];exact⟨I,(by rw[HF.out];try rfl),bW _,H1.out.p1.drop⟩
   | true=>
    go_wp2_with fail;refine (C0.out _).mono ?_;rintro e w2 ⟨rfl,rfl⟩;have HF:Hid (rv=true):=ah (by rw[bU.out];simp[aQ,HK.out,X0.out]);clear hld;go_wp2;rw[bK.out];exact⟨I,(by rw[HF.out];try rfl),bW _,H1.out.p1.drop⟩
  ·
   as_aux_lemma=>
   obtain⟨b0,hb0⟩:=aC (aP z.u 0 255);have C0:Hid (∀w',Calls Tryz.prog 66 #[.int .i64 z.u,.int .i64 0,.int .i64 255] w' fun e w''=>e=.returned (.bool b0)∧w'=w''):=ah fun w'=>by rw[hb0];exact CW.out _ _ _ w'
   have X0:Hid (aP x.u 0 255=b0):=ah (by rw[hb0,HA.out.1.u]);clear hb0;clear CW;cases b0 with
   | false=>
    go_wp2_with fail;refine (C0.out _).mono ?_;rintro e w2 ⟨rfl,rfl⟩;have HF:Hid (rv=false):=ah (by rw[bU.out];simp[aQ,HK.out,X0.out]);clear hld;go_wp2;rw[bK.out];exact⟨I,(by rw[HF.out];try rfl),bW _,H1.out.p1.drop⟩
   | true=>
    go_wp2_with fail;refine (C0.out _).mono ?_;rintro e w2 ⟨rfl,rfl⟩;have HF:Hid (rv=true):=ah (by rw[bU.out];simp[aQ,HK.out,X0.out]);clear hld;go_wp2;rw[bK.out];exact⟨I,(by rw[HF.out];try rfl),bW _,H1.out.p1.drop⟩
  ·
   as_aux_lemma=>
   obtain⟨b0,hb0⟩:=aC (aP z.u 0 255);have C0:Hid (∀w',Calls Tryz.prog 66 #[.int .i64 z.u,.int .i64 0,.int .i64 255] w' fun e w''=>e=.returned (.bool b0)∧w'=w''):=ah fun w'=>by rw[hb0];exact CW.out _ _ _ w'
   have X0:Hid (aP x.u 0 255=b0):=ah (by rw[hb0,HA.out.1.u]);clear hb0;obtain⟨b1,hb1⟩:=aC (aP z.m 1 12);have C1:Hid (∀w',Calls Tryz.prog 66 #[.int .i64 z.m,.int .i64 1,.int .i64 12] w' fun e w''=>e=.returned (.bool b1)∧w'=w''):=ah fun w'=>by rw[hb1];exact CW.out _ _ _ w'
   have X1:Hid (aP x.m 1 12=b1):=ah (by rw[hb1,HA.out.1.m]);clear hb1;clear CW;cases b0 with
   | false=>
    go_wp2_with fail;refine (C0.out _).mono ?_;rintro e w2 ⟨rfl,rfl⟩;have HF:Hid (rv=false):=ah (by rw[bU.out];simp[aQ,HK.out,X0.out]);clear hld;go_wp2;rw[bK.out];exact⟨I,(by rw[HF.out];try rfl),bW _,H1.out.p1.drop⟩
   | true=>
    cases b1 with
    | false=>
     go_wp2_with fail;refine (C0.out _).mono ?_;rintro e w2 ⟨rfl,rfl⟩;go_wp2_with fail;refine (C1.out _).mono ?_;rintro e w2 ⟨rfl,rfl⟩;have HF:Hid (rv=false):=ah (by rw[bU.out];simp[aQ,HK.out,X0.out,X1.out]);clear hld;go_wp2;rw[bK.out];exact⟨I,(by rw[HF.out];try rfl),bW _,H1.out.p1.drop⟩
    | true=>
     go_wp2_with fail;refine (C0.out _).mono ?_;rintro e w2 ⟨rfl,rfl⟩;go_wp2_with fail;refine (C1.out _).mono ?_;rintro e w2 ⟨rfl,rfl⟩;have HF:Hid (rv=true):=ah (by rw[bU.out];simp[aQ,HK.out,X0.out,X1.out]);clear hld;go_wp2;rw[bK.out];exact⟨I,(by rw[HF.out];try rfl),bW _,H1.out.p1.drop⟩
  ·
   as_aux_lemma=>
   clear CW;cases lt with
   | false=>
    have HF:Hid (rv=false):=ah (by rw[bU.out];simp[aQ,HK.out,KF.out]);clear hld;go_wp2;rw[bK.out];exact⟨I,(by rw[HF.out];try rfl),bW _,H1.out.p1.drop⟩
   | true=>
    have HF:Hid (rv=true):=ah (by rw[bU.out];simp[aQ,HK.out,KF.out]);clear hld;go_wp2;rw[bK.out];exact⟨I,(by rw[HF.out];try rfl),bW _,H1.out.p1.drop⟩
  ·
   as_aux_lemma=>
   obtain⟨b0,hb0⟩:=aC (aP z.p 1 4095);have C0:Hid (∀w',Calls Tryz.prog 66 #[.int .i64 z.p,.int .i64 1,.int .i64 4095] w' fun e w''=>e=.returned (.bool b0)∧w'=w''):=ah fun w'=>by rw[hb0];exact CW.out _ _ _ w'
   have X0:Hid (aP x.p 1 4095=b0):=ah (by rw[hb0,HA.out.1.p]);clear hb0;clear CW;cases b0 with
   | false=>
    go_wp2_with fail;refine (C0.out _).mono ?_;rintro e w2 ⟨rfl,rfl⟩;have HF:Hid (rv=false):=ah (by rw[bU.out];simp[aQ,HK.out,X0.out]);clear hld;go_wp2;rw[bK.out];exact⟨I,(by rw[HF.out];try rfl),bW _,H1.out.p1.drop⟩
   | true=>
    go_wp2_with fail;refine (C0.out _).mono ?_;rintro e w2 ⟨rfl,rfl⟩;have HF:Hid (rv=true):=ah (by rw[bU.out];simp[aQ,HK.out,X0.out]);clear hld;go_wp2;rw[bK.out];exact⟨I,(by rw[HF.out];try rfl),bW _,H1.out.p1.drop⟩
  ·
   as_aux_lemma=>
   obtain⟨b0,hb0⟩:=aC (aP z.p 1 4095);have C0:Hid (∀w',Calls Tryz.prog 66 #[.int .i64 z.p,.int .i64 1,.int .i64 4095] w' fun e w''=>e=.returned (.bool b0)∧w'=w''):=ah fun w'=>by rw[hb0];exact CW.out _ _ _ w'
   have X0:Hid (aP x.p 1 4095=b0):=ah (by rw[hb0,HA.out.1.p]);clear hb0;clear CW;cases b0 with
   | false=>
    go_wp2_with fail;refine (C0.out _).mono ?_;rintro e w2 ⟨rfl,rfl⟩;have HF:Hid (rv=false):=ah (by rw[bU.out];simp[aQ,HK.out,X0.out]);clear hld;go_wp2;rw[bK.out];exact⟨I,(by rw[HF.out];try rfl),bW _,H1.out.p1.drop⟩
   | true=>
    go_wp2_with fail;refine (C0.out _).mono ?_;rintro e w2 ⟨rfl,rfl⟩;have HF:Hid (rv=true):=ah (by rw[bU.out];simp[aQ,HK.out,X0.out]);clear hld;go_wp2;rw[bK.out];exact⟨I,(by rw[HF.out];try rfl),bW _,H1.out.p1.drop⟩
  ·
   as_aux_lemma=>
   obtain⟨b0,hb0⟩:=aC (aP z.u 0 2);have C0:Hid (∀w',Calls Tryz.prog 66 #[.int .i64 z.u,.int .i64 0,.int .i64 2] w' fun e w''=>e=.returned (.bool b0)∧w'=w''):=ah fun w'=>by rw[hb0];exact CW.out _ _ _ w'
   have X0:Hid (aP x.u 0 2=b0):=ah (by rw[hb0,HA.out.1.u]);obtain⟨b1,hb1⟩:=aC (aP z.q 0 1);have C1:Hid (∀w',Calls Tryz.prog 66 #[.int .i64 z.q,.int .i64 0,.int .i64 1] w' fun e w''=>e=.returned (.bool b1)∧w'=w''):=ah fun w'=>by rw[hb1];exact CW.out _ _ _ w'
   have X1:Hid (aP x.q 0 1=b1):=ah (by rw[hb1,HA.out.1.q]);obtain⟨fb,hfb⟩:=aC (gZ x.cl);have C:Hid (∀w' A',Sat W w' (sep (kn I) A')→Calls Tryz.prog 120 #[.slice z.cl.a z.cl.n z.cl.c] w' fun e w''=>e=.returned (.bool fb)∧Sat W w'' (sep (kn I) A')):=ah fun w' A' h'=>by rw[hfb];exact qK _ _ _ x.cl HA.out.1.cl HA.out.2.cl h'
   have X2:Hid (gZ x.cl=fb):=ah hfb.symm;clear hb0 hb1 hfb CW;cases b0 with
   | false=>
    go_wp2_with fail;refine (C0.out _).mono ?_;rintro e w2 ⟨rfl,rfl⟩;have HF:Hid (rv=false):=ah (by rw[bU.out];simp[aQ,HK.out,X0.out]);clear hld k0 k1 k4 k5 k6 k7 k8 k9 k10 k13 k15 k16 k17 k18;go_wp2;rw[bK.out];exact⟨I,(by rw[HF.out];try rfl),bW _,H1.out.p1.drop⟩
   | true=>
    cases b1 with
    | false=>
     go_wp2_with fail;refine (C0.out _).mono ?_;rintro e w2 ⟨rfl,rfl⟩;go_wp2_with fail;refine (C1.out _).mono ?_;rintro e w2 ⟨rfl,rfl⟩;have HF:Hid (rv=false):=ah (by rw[bU.out];simp[aQ,HK.out,X0.out,X1.out]);clear hld k0 k1 k4 k5 k6 k7 k8 k9 k10 k13 k15 k16 k17 k18;go_wp2;rw[bK.out];exact⟨I,(by rw[HF.out];try rfl),bW _,H1.out.p1.drop⟩
    | true=>
     by_cases c:z.u=2
     ·have c':(z.u !=2)=false:=by simp[c]
      have HF:Hid (rv=fb):=ah (by
       have cx:x.u=2:=by rw[←HA.out.1.u];exact c
       rw[bU.out];simp[aQ,HK.out,X1.out,X2.out,cx,show aP 2 0 2=true from rfl])
      clear c;go_wp2_with fail;refine (C0.out _).mono ?_;rintro e w2 ⟨rfl,rfl⟩;go_wp2_with fail;refine (C1.out _).mono ?_;rintro e w2 ⟨rfl,rfl⟩;go_wp2_with fail;refine (C.out _ _ H1.out).mono ?_;rintro e w2 ⟨rfl,h2⟩;have H2:=ah h2.p1.drop;clear h2 H1 C;clear hld k0 k1 k4 k5 k6 k7 k8 k9 k10 k13 k15 k16 k17 k18;go_wp2;rw[bK.out];exact⟨I,(by rw[HF.out];try rfl),bW _,H2.out⟩
     ·have c':(z.u !=2)=true:=by simpa using c
      have HF:Hid (rv=true):=ah (by
       have cx:¬x.u=2:=by rw[←HA.out.1.u];exact c
       rw[bU.out];simp[aQ,HK.out,X0.out,X1.out,cx])
      clear c;go_wp2_with fail;refine (C0.out _).mono ?_;rintro e w2 ⟨rfl,rfl⟩;go_wp2_with fail;refine (C1.out _).mono ?_;rintro e w2 ⟨rfl,rfl⟩;clear hld;go_wp2;rw[bK.out];exact⟨I,(by rw[HF.out];try rfl),bW _,H1.out.p1.drop⟩
  ·
   as_aux_lemma=>
   obtain⟨cm,hcm⟩:=aC (Y4 z.sn z.sd);obtain⟨ok,hok⟩:=aC (okR ⟨z.sn,z.sd⟩);have CM:Hid (∀w' A',Sat W w' A'→Calls Tryz.prog 121 #[.agg #[.int .i64 z.sn,.int .i64 z.sd],.agg #[.int .i64 1,.int .i64 1]] w' fun e w''=>∃ev:Int,e=.returned (.tuple #[.int .i64 cm,.int .i64 ev])∧Sat W w'' A'):=ah fun w' A' h'=>by rw[hcm];exact Qv _ _ h'
   have CV:Hid (∀w' A',Sat W w' A'→Calls Tryz.prog 122 #[.agg #[.int .i64 z.sn,.int .i64 z.sd]] w' fun e w''=>e=.returned (.int .i64 (Sr ok))∧Sat W w'' A'):=ah fun w' A' h'=>by rw[hok];exact nJ _ _ h'
   have HS:Hid (nK x.sn x.sd=(ok&&(decide (0<z.sn)&&decide (z.sn≤z.sd)))):=ah (by unfold nK;rw[hok,HA.out.1.sn,HA.out.1.sd]);have HC:Hid (ok=true→cm=if z.sn<z.sd then -1 else if z.sd<z.sn then 1 else 0):=ah (fun hh=>by rw[hcm];unfold Y4;rw[if_pos (hok ▸ hh)]);clear hcm hok CW;go_wp2_with fail;refine (CM.out _ _ H1.out).mono ?_;rintro e w2 ⟨ev,rfl,h2⟩;clear k0 k1 k4 k5 k6 k7 k8 k9 k10 k13 k15 k16 k17 k18 hld;have k9:=(ay h2.p1 9 _ rfl).1;have k10:=(ay h2.p1 10 _ rfl).1;have H2:=ah h2;clear h2 H1 CM;cases pa with
   | false=>
    have HF:Hid (rv=false):=ah (by rw[bU.out];simp[aQ,HK.out,OL.out]);clear k9 k10;go_wp2;rw[bK.out];exact⟨I,(by rw[HF.out];try rfl),bW _,H2.out.p1.drop⟩
   | true=>
    go_wp2_with fail;refine (CV.out _ _ H2.out).mono ?_;rintro e w3 ⟨rfl,h3⟩;clear k9 k10;have k9:=(ay h3.p1 9 _ rfl).1;have H3:=ah h3;clear h3 H2 CV;cases ok with
    | false=>
     have HF:Hid (rv=false):=ah (by rw[bU.out];simp[aQ,HK.out,HS.out]);unfold Sr;clear k9;go_wp2;rw[bK.out];exact⟨I,(by rw[HF.out];try rfl),bW _,H3.out.p1.drop⟩
    | true=>
     unfold Sr;by_cases c:0<z.sn
     ·by_cases c1:z.sn≤z.sd
      ·have hc:cm≤0:=by rw[HC.out (by first|rfl|trivial)];split;omega;rw[if_neg (by omega)];omega
       have HF:Hid (rv=true):=ah (by rw[bU.out];simp[aQ,HK.out,HS.out,OL.out,c,c1]);clear c1;go_wp2;rw[bK.out];exact⟨I,(by rw[HF.out];first|rfl|(show Ending.returned (.bool (decide (cm≤0)))=_;rw[decide_eq_true hc])|(show Ending.returned (.bool (decide (cm≤0)))=_;rw[decide_eq_false (Int.not_le.2 hc)])),bW _,H3.out.p1.drop⟩
      ·have hc:¬cm≤0:=by rw[HC.out (by first|rfl|trivial),if_neg (by omega),if_pos (by omega)];omega
       have HF:Hid (rv=false):=ah (by rw[bU.out];simp[aQ,HK.out,HS.out,c1]);clear c1;go_wp2;rw[bK.out];exact⟨I,(by rw[HF.out];first|rfl|(show Ending.returned (.bool (decide (cm≤0)))=_;rw[decide_eq_true hc])|(show Ending.returned (.bool (decide (cm≤0)))=_;rw[decide_eq_false (Int.not_le.2 hc)])),bW _,H3.out.p1.drop⟩
     ·have HF:Hid (rv=false):=ah (by rw[bU.out];simp[aQ,HK.out,HS.out,c])
      go_wp2;rw[bK.out];exact⟨I,(by rw[HF.out];try rfl),bW _,H3.out.p1.drop⟩
  ·
   as_aux_lemma=>
   clear CW;cases pa with
   | false=>
    have HF:Hid (rv=false):=ah (by rw[bU.out];simp[aQ,HK.out,OL.out]);clear hld;go_wp2;rw[bK.out];exact⟨I,(by rw[HF.out];try rfl),bW _,H1.out.p1.drop⟩
   | true=>
    cases lt with
    | false=>
     have HF:Hid (rv=false):=ah (by rw[bU.out];simp[aQ,HK.out,OL.out,KF.out]);clear hld;go_wp2;rw[bK.out];exact⟨I,(by rw[HF.out];try rfl),bW _,H1.out.p1.drop⟩
    | true=>
     have HF:Hid (rv=true):=ah (by rw[bU.out];simp[aQ,HK.out,OL.out,KF.out]);clear hld;go_wp2;rw[bK.out];exact⟨I,(by rw[HF.out];try rfl),bW _,H1.out.p1.drop⟩
  ·
   as_aux_lemma=>
   obtain⟨b0,hb0⟩:=aC (aP z.u 0 7);have C0:Hid (∀w',Calls Tryz.prog 66 #[.int .i64 z.u,.int .i64 0,.int .i64 7] w' fun e w''=>e=.returned (.bool b0)∧w'=w''):=ah fun w'=>by rw[hb0];exact CW.out _ _ _ w'
   have X0:Hid (aP x.u 0 7=b0):=ah (by rw[hb0,HA.out.1.u]);clear hb0;clear CW;cases b0 with
   | false=>
    go_wp2_with fail;refine (C0.out _).mono ?_;rintro e w2 ⟨rfl,rfl⟩;have HF:Hid (rv=false):=ah (by rw[bU.out];simp[aQ,HK.out,X0.out]);clear hld;go_wp2;rw[bK.out];exact⟨I,(by rw[HF.out];try rfl),bW _,H1.out.p1.drop⟩
   | true=>
    go_wp2_with fail;refine (C0.out _).mono ?_;rintro e w2 ⟨rfl,rfl⟩;have HF:Hid (rv=true):=ah (by rw[bU.out];simp[aQ,HK.out,X0.out]);clear hld;go_wp2;rw[bK.out];exact⟨I,(by rw[HF.out];try rfl),bW _,H1.out.p1.drop⟩
  ·
   as_aux_lemma=>
   have C:Hid (∀w' A',Sat W w' (sep (kn I) A')→Calls Tryz.prog 123 #[.agg #[.int .i64 z.fo,.int .i64 z.fn,.slice z.fi.a z.fi.n z.fi.c,.slice z.fk.a z.fk.n z.fk.c]] w' fun e w''=>e=.returned (.int .i64 (kQ x.fx))∧Sat W w'' (sep (kn I) A')):=ah fun w' A' h'=>jR x.fx _ _ _ _ _ _ _ _ HA.out.1.fx HA.out.2.fx h'
   have HF:Hid (rv=decide (kQ x.fx=0)):=ah (by rw[bU.out];simp[aQ,HK.out]);clear CW;go_wp2_with fail;refine (C.out _ _ H1.out).mono ?_;rintro e w2 ⟨rfl,h2⟩;have H2:=ah h2.p1.drop;clear h2 H1 C hld k0 k1 k4 k5 k6 k7 k8 k9 k10 k13 k15 k16 k17 k18;go_wp2;rw[bK.out];refine⟨I,?_,bW _,H2.out⟩;rw[HF.out]
   first
    | rfl
    | (by_cases hh:kQ x.fx=0<;>simp[hh])
  ·
   as_aux_lemma=>
   obtain⟨b0,hb0⟩:=aC (aP z.o 0 11);have C0:Hid (∀w',Calls Tryz.prog 66 #[.int .i64 z.o,.int .i64 0,.int .i64 11] w' fun e w''=>e=.returned (.bool b0)∧w'=w''):=ah fun w'=>by rw[hb0];exact CW.out _ _ _ w'
   have X0:Hid (aP x.o 0 11=b0):=ah (by rw[hb0,HA.out.1.o]);clear hb0;clear CW;cases b0 with
   | false=>
    go_wp2_with fail;refine (C0.out _).mono ?_;rintro e w2 ⟨rfl,rfl⟩;have HF:Hid (rv=false):=ah (by rw[bU.out];simp[aQ,HK.out,X0.out]);clear hld;go_wp2;rw[bK.out];exact⟨I,(by rw[HF.out];try rfl),bW _,H1.out.p1.drop⟩
   | true=>
    cases lt with
    | false=>
     go_wp2_with fail;refine (C0.out _).mono ?_;rintro e w2 ⟨rfl,rfl⟩;have HF:Hid (rv=false):=ah (by rw[bU.out];simp[aQ,HK.out,X0.out,KF.out]);clear hld;go_wp2;rw[bK.out];exact⟨I,(by rw[HF.out];try rfl),bW _,H1.out.p1.drop⟩
    | true=>
     go_wp2_with fail;refine (C0.out _).mono ?_;rintro e w2 ⟨rfl,rfl⟩;have HF:Hid (rv=true):=ah (by rw[bU.out];simp[aQ,HK.out,X0.out,KF.out]);clear hld;go_wp2;rw[bK.out];exact⟨I,(by rw[HF.out];try rfl),bW _,H1.out.p1.drop⟩
  ·
   as_aux_lemma=>
   obtain⟨b0,hb0⟩:=aC (aP z.o 0 11);have C0:Hid (∀w',Calls Tryz.prog 66 #[.int .i64 z.o,.int .i64 0,.int .i64 11] w' fun e w''=>e=.returned (.bool b0)∧w'=w''):=ah fun w'=>by rw[hb0];exact CW.out _ _ _ w'
   have X0:Hid (aP x.o 0 11=b0):=ah (by rw[hb0,HA.out.1.o]);clear hb0;obtain⟨b1,hb1⟩:=aC (aP z.u 0 18);have C1:Hid (∀w',Calls Tryz.prog 66 #[.int .i64 z.u,.int .i64 0,.int .i64 18] w' fun e w''=>e=.returned (.bool b1)∧w'=w''):=ah fun w'=>by rw[hb1];exact CW.out _ _ _ w'
   have X1:Hid (aP x.u 0 18=b1):=ah (by rw[hb1,HA.out.1.u]);clear hb1;obtain⟨b2,hb2⟩:=aC (aP z.m 0 1099511627776);have C2:Hid (∀w',Calls Tryz.prog 66 #[.int .i64 z.m,.int .i64 0,.int .i64 1099511627776] w' fun e w''=>e=.returned (.bool b2)∧w'=w''):=ah fun w'=>by rw[hb2];exact CW.out _ _ _ w'
   have X2:Hid (aP x.m 0 1099511627776=b2):=ah (by rw[hb2,HA.out.1.m]);clear hb2;clear CW;cases b0 with
   | false=>
    go_wp2_with fail;refine (C0.out _).mono ?_;rintro e w2 ⟨rfl,rfl⟩;have HF:Hid (rv=false):=ah (by rw[bU.out];simp[aQ,HK.out,X0.out]);clear hld;go_wp2;rw[bK.out];exact⟨I,(by rw[HF.out];try rfl),bW _,H1.out.p1.drop⟩
   | true=>
    cases b1 with
    | false=>
     go_wp2_with fail;refine (C0.out _).mono ?_;rintro e w2 ⟨rfl,rfl⟩;go_wp2_with fail;refine (C1.out _).mono ?_;rintro e w2 ⟨rfl,rfl⟩;have HF:Hid (rv=false):=ah (by rw[bU.out];simp[aQ,HK.out,X0.out,X1.out]);clear hld;go_wp2;rw[bK.out];exact⟨I,(by rw[HF.out];try rfl),bW _,H1.out.p1.drop⟩
    | true=>
     cases b2 with
     | false=>
      go_wp2_with fail;refine (C0.out _).mono ?_;rintro e w2 ⟨rfl,rfl⟩;go_wp2_with fail;refine (C1.out _).mono ?_;rintro e w2 ⟨rfl,rfl⟩;go_wp2_with fail;refine (C2.out _).mono ?_;rintro e w2 ⟨rfl,rfl⟩;have HF:Hid (rv=false):=ah (by rw[bU.out];simp[aQ,HK.out,X0.out,X1.out,X2.out]);clear hld;go_wp2;rw[bK.out];exact⟨I,(by rw[HF.out];try rfl),bW _,H1.out.p1.drop⟩
     | true=>
      go_wp2_with fail;refine (C0.out _).mono ?_;rintro e w2 ⟨rfl,rfl⟩;go_wp2_with fail;refine (C1.out _).mono ?_;rintro e w2 ⟨rfl,rfl⟩;go_wp2_with fail;refine (C2.out _).mono ?_;rintro e w2 ⟨rfl,rfl⟩;have HF:Hid (rv=true):=ah (by rw[bU.out];simp[aQ,HK.out,X0.out,X1.out,X2.out]);clear hld;go_wp2;rw[bK.out];exact⟨I,(by rw[HF.out];try rfl),bW _,H1.out.p1.drop⟩
  ·
   as_aux_lemma=>
   have n0:(kz==0)=false:=by simp;omega
   have n3:(kz==3)=false:=by simp;omega
   have n15:(kz==15)=false:=by simp;omega
   have n4:(kz==4)=false:=by simp;omega
   have n5:(kz==5)=false:=by simp;omega
   have n6:(kz==6)=false:=by simp;omega
   have n7:(kz==7)=false:=by simp;omega
   have n8:(kz==8)=false:=by simp;omega
   have n9:(kz==9)=false:=by simp;omega
   have n12:(kz==12)=false:=by simp;omega
   have n14:(kz==14)=false:=by simp;omega
   have n13:(kz==13)=false:=by simp;omega
   have n16:(kz==16)=false:=by simp;omega
   have n17:(kz==17)=false:=by simp;omega
   have n18:(kz==18)=false:=by simp;omega
   have n19:(kz==19)=false:=by simp;omega
   have n20:(kz==20)=false:=by simp;omega
   have n21:(kz==21)=false:=by simp;omega
   have HF:Hid (rv=true):=ah (by rw[bU.out];simp[aQ,HK.out,hn]);clear hn CW hld;go_wp2;rw[bK.out];exact⟨I,(by rw[HF.out];try rfl),bW _,H1.out.p1.drop⟩
end Go.Proofs.YthfmaclnccdcbaaGreatDoor

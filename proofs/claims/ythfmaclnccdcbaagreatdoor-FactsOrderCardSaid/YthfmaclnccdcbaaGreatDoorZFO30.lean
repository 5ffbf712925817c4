/- Part of a proof. -/
import Derived.Test.YthfmaclnccdcbaaGreatDoorZFO29
namespace PA
open Go Go.RowKit
theorem Zg {I:Mem} {z:Ac} {f:Fm} (h:rF.rel I [.int .i64 z.fo,.int .i64 z.fn,z.fi.v,z.fk.v] f):z.fo=f.op∧z.fn=f.num∧z.fi.n=f.ins.length∧z.fk.n=f.kids.length:=by
 obtain⟨o,n,i,k⟩:=f;obtain⟨a,c,b,d,e,-,-⟩:=dW.1 h;simp only[Sv.v,List.cons.injEq,Value.int.injEq,Value.slice.injEq,and_true,true_and] at e;obtain⟨e1,e2,⟨-,e3,-⟩,⟨-,e4,-⟩⟩:=e;exact⟨e1,e2,e3,e4⟩
theorem TI {I:Mem} {z:Ac} {x:Pa} (h:lT I z x):xC z=iH x:=by
 obtain⟨f1,f2,f3,f4⟩:=Zg h.fx;have t1:=(aJ h.td).1;have t2:=(aJ h.tc).1;have t3:=(aJ h.cl).1;have t4:=(aJ h.ea).1;unfold xC iH;rw[h.f,h.o,h.p,h.q,h.u,h.m,h.sn,h.sd,f1,f2,f3,f4,t1,t2,t3,t4];have hc:∀n:Nat,((n:Int)==0)=decide (n=0):=fun n=>by cases n<;>simp<;>omega
 have hi:∀n:Int,(n==0)=decide (n=0):=fun n=>by by_cases hh:n=0<;>simp[hh]
 simp only[hc,hi,Bool.and_assoc]
theorem VO {I:Mem} {z:Ac} {x:Pa} (h:lT I z x):lT I (iO z) (ku x):=by
 have hk:=h.k;have hu:=h.u;constructor
 ·exact h.k
 ·exact h.d
 ·exact h.n
 ·show (if bT z.k=true then 0 else z.f)=if bT x.k=true then 0 else x.f
  rw[h.k,h.f]
 ·show (if z.k=0∨_ then _ else z.o)=if x.k=0∨_ then _ else x.o
  rw[h.k,h.o]
 ·show (if z.k=0∨_ then _ else z.p)=if x.k=0∨_ then _ else x.p
  rw[h.k,h.p]
 ·show (if z.k=0∨_ then _ else z.q)=if x.k=0∨_ then _ else x.q
  rw[h.k,h.q]
 ·show (if z.k=4∨_ then _ else z.u)=if x.k=4∨_ then _ else x.u
  rw[h.k,h.u]
 ·show (if z.k=4∨_ then _ else z.m)=if x.k=4∨_ then _ else x.m
  rw[h.k,h.m]
 ·show (if z.k=16 then _ else z.sn)=if x.k=16 then _ else x.sn
  rw[h.k,h.sn]
 ·show (if z.k=16 then _ else z.sd)=if x.k=16 then _ else x.sd
  rw[h.k,h.sd]
 ·show (rF.slice 4).rel I [Sv.v (if z.k=0 then ak else z.td)] (if x.k=0 then [] else x.td)
  rw[h.k];split
  ·exact aF _ _ _
  ·exact h.td
 ·show (lM.slice 5).rel I [Sv.v (if z.k=0 then ak else z.tc)] (if x.k=0 then [] else x.tc)
  rw[h.k];split
  ·exact aF _ _ _
  ·exact h.tc
 ·show (lM.slice 5).rel I [Sv.v (if z.k=3∨z.k=15∨(z.k=13∧z.u=2) then ak else z.cl)] (if x.k=3∨x.k=15∨(x.k=13∧x.u=2) then [] else x.cl)
  rw[h.k,h.u];split
  ·exact aF _ _ _
  ·exact h.cl
 ·show (Qu.slice 2).rel I [Sv.v (if z.k=0 then ak else z.ea)] (if x.k=0 then [] else x.ea)
  rw[h.k];split
  ·exact aF _ _ _
  ·exact h.ea
 ·show rF.rel I [.int .i64 (if z.k=19 then 0 else z.fo),.int .i64 (if z.k=19 then 0 else z.fn),Sv.v (if z.k=19 then ak else z.fi),Sv.v (if z.k=19 then ak else z.fk)] (if x.k=19 then Fm.zero else x.fx)
  rw[h.k];by_cases hh:x.k=19
  ·simp only[if_pos hh];exact dX I
  ·simp only[if_neg hh];exact h.fx
theorem Pq {I:Mem} {z:Ac} {x:Pa} (h:lT I z x):xC (iO z)=iH (ku x):=TI (VO h)
end PA
namespace Go.Proofs.YthfmaclnccdcbaaGreatDoor
open Go.RowKit PA
attribute [local go_sem ↓] aY bI aV
set_option maxRecDepth 100000 in
set_option maxHeartbeats 8000000 in
theorem Kr {W w:World} {A:aB} {I:Mem} (z:Ac) (x:Pa) (hA:lT I z x) (hz:YK x) (h:Sat W w (sep (kn I) A)):
 Calls Tryz.prog 18 #[.agg z.cells.toArray] w fun e w'=>∃J,e=.returned (.int .i64 (if bC x=true then 0 else 1))∧Mem.le I J∧Sat W w' (sep (kn J) A):=by
 have h1:=(h.alloc (.cells z.cells.toArray 36)).p1;obtain⟨B,hB⟩:=aC (w.heap.size);obtain⟨w1,hw1⟩:=aC (w.alloc (.cells z.cells.toArray 36));rw[←hB,←hw1] at h1;have HB:=ah (aH hB hw1);have hld:=iq h1.p1;obtain⟨rv,dQ⟩:∃y:Int,y=if bC x=true then 0 else 1:=⟨_,rfl⟩
 obtain⟨cl,hcl⟩:=aC (xC (iO z));obtain⟨fo,hfo⟩:=aC (aQ x);obtain⟨b1,hb1⟩:=aC (aP z.k 0 21);obtain⟨b2,hb2⟩:=aC (aP z.d 0 131072);obtain⟨b3,hb3⟩:=aC (aP z.n 0 1099511627776);obtain⟨b4,hb4⟩:=aC (aP z.f 0 4095);have C1:Hid (∀w',Calls Tryz.prog 66 #[.int .i64 z.k,.int .i64 0,.int .i64 21] w' fun e w''=>e=.returned (.bool b1)∧w'=w''):=ah fun w'=>by rw[hb1];exact dZ _ _ _ w'
 have C2:Hid (∀w',Calls Tryz.prog 66 #[.int .i64 z.d,.int .i64 0,.int .i64 131072] w' fun e w''=>e=.returned (.bool b2)∧w'=w''):=ah fun w'=>by rw[hb2];exact dZ _ _ _ w'
 have C3:Hid (∀w',Calls Tryz.prog 66 #[.int .i64 z.n,.int .i64 0,.int .i64 1099511627776] w' fun e w''=>e=.returned (.bool b3)∧w'=w''):=ah fun w'=>by rw[hb3];exact dZ _ _ _ w'
 have C4:Hid (∀w',Calls Tryz.prog 66 #[.int .i64 z.f,.int .i64 0,.int .i64 4095] w' fun e w''=>e=.returned (.bool b4)∧w'=w''):=ah fun w'=>by rw[hb4];exact dZ _ _ _ w'
 have CB:Hid (∀w' A',Sat W w' A'→Calls Tryz.prog 65 #[.agg z.cells.toArray] w' fun e w''=>e=.returned (.agg (iO z).cells.toArray)∧Sat W w'' A'):=ah fun w' A' h'=>Lp z h'
 have CC:Hid (∀w' A',Sat W w' A'→Calls Tryz.prog 64 #[.agg (iO z).cells.toArray] w' fun e w''=>e=.returned (.bool cl)∧Sat W w'' A'):=ah fun w' A' h'=>by rw[hcl];exact Jc _ h'
 have CF:Hid (∀w' A',Sat W w' (sep (kn I) A')→Calls Tryz.prog 67 #[.agg z.cells.toArray] w' fun e w''=>∃J,e=.returned (.bool fo)∧Mem.le I J∧Sat W w'' (sep (kn J) A')):=ah fun w' A' h'=>by rw[hfo];exact Gt z x hA hz h'
 have bU:Hid (rv=if (b1&&(b2&&(b3&&(b4&&(cl&&fo)))))=true then 0 else 1):=ah (by
  rw[dQ,hb1,hb2,hb3,hb4,hcl,hfo,Pq hA,hA.k,hA.d,hA.n,hA.f];rfl)
 have H1:=ah h1;rw[←dQ];obtain⟨Po,dS⟩:∃P:Ending→World→Prop,P=fun e w'=>∃J,e=.returned (.int .i64 rv)∧Mem.le I J∧Sat W w' (sep (kn J) A):=⟨_,rfl⟩
 rw[←dS];have bK:=ah dS;clear hA hz h h1 hB hw1 dQ hb1 hb2 hb3 hb4 hcl hfo dS;go_enter Tryz.func18,Tryz.ntmps18;go_upto_region 1 with fail;rw[←HB.out.1,←HB.out.2];go_wp2_with fail;refine (CB.out _ _ H1.out).mono ?_;rintro e w2 ⟨rfl,h2⟩;clear hld;have H2:=ah h2;clear h2 H1 CB;go_wp2_with fail;refine (CC.out _ _ H2.out).mono ?_;rintro e w3 ⟨rfl,h3⟩;have hld:=iq h3.p1;have k0:=(ay h3.p1 0 _ rfl).1;have k1:=(ay h3.p1 1 _ rfl).1;have k2:=(ay h3.p1 2 _ rfl).1;have k3:=(ay h3.p1 3 _ rfl).1;have H3:=ah h3;clear h3 H2 CC;cases b1 with
 | false=>
  go_wp2_with fail;refine (C1.out _).mono ?_;rintro e w2 ⟨rfl,rfl⟩;have HF:Hid (rv=1):=ah (by rw[bU.out];rfl);clear hld k0 k1 k2 k3;go_wp2;rw[bK.out];exact⟨I,(by rw[HF.out];try rfl),bW _,H3.out.p1.drop⟩
 | true=>
  cases b2 with
  | false=>
   go_wp2_with fail;refine (C1.out _).mono ?_;rintro e w2 ⟨rfl,rfl⟩;go_wp2_with fail;refine (C2.out _).mono ?_;rintro e w2 ⟨rfl,rfl⟩;have HF:Hid (rv=1):=ah (by rw[bU.out];rfl);clear hld k0 k1 k2 k3;go_wp2;rw[bK.out];exact⟨I,(by rw[HF.out];try rfl),bW _,H3.out.p1.drop⟩
  | true=>
   cases b3 with
   | false=>
    go_wp2_with fail;refine (C1.out _).mono ?_;rintro e w2 ⟨rfl,rfl⟩;go_wp2_with fail;refine (C2.out _).mono ?_;rintro e w2 ⟨rfl,rfl⟩;go_wp2_with fail;refine (C3.out _).mono ?_;rintro e w2 ⟨rfl,rfl⟩;have HF:Hid (rv=1):=ah (by rw[bU.out];rfl);clear hld k0 k1 k2 k3;go_wp2;rw[bK.out];exact⟨I,(by rw[HF.out];try rfl),bW _,H3.out.p1.drop⟩
   | true=>
    cases b4 with
    | false=>
     go_wp2_with fail;refine (C1.out _).mono ?_;rintro e w2 ⟨rfl,rfl⟩;go_wp2_with fail;refine (C2.out _).mono ?_;rintro e w2 ⟨rfl,rfl⟩;go_wp2_with fail;refine (C3.out _).mono ?_;rintro e w2 ⟨rfl,rfl⟩;go_wp2_with fail;refine (C4.out _).mono ?_;rintro e w2 ⟨rfl,rfl⟩;have HF:Hid (rv=1):=ah (by rw[bU.out];rfl);clear hld k0 k1 k2 k3;go_wp2;rw[bK.out];exact⟨I,(by rw[HF.out];try rfl),bW _,H3.out.p1.drop⟩
    | true=>
     cases cl with
     | false=>
      go_wp2_with fail;refine (C1.out _).mono ?_;rintro e w2 ⟨rfl,rfl⟩;go_wp2_with fail;refine (C2.out _).mono ?_;rintro e w2 ⟨rfl,rfl⟩;go_wp2_with fail;refine (C3.out _).mono ?_;rintro e w2 ⟨rfl,rfl⟩;go_wp2_with fail;refine (C4.out _).mono ?_;rintro e w2 ⟨rfl,rfl⟩;have HF:Hid (rv=1):=ah (by rw[bU.out];rfl);clear hld k0 k1 k2 k3;go_wp2;rw[bK.out];exact⟨I,(by rw[HF.out];try rfl),bW _,H3.out.p1.drop⟩
     | true=>
      go_wp2_with fail;refine (C1.out _).mono ?_;rintro e w2 ⟨rfl,rfl⟩;go_wp2_with fail;refine (C2.out _).mono ?_;rintro e w2 ⟨rfl,rfl⟩;go_wp2_with fail;refine (C3.out _).mono ?_;rintro e w2 ⟨rfl,rfl⟩;go_wp2_with fail;refine (C4.out _).mono ?_;rintro e w2 ⟨rfl,rfl⟩;go_wp2_with fail;refine (CF.out _ _ H3.out).mono ?_;rintro e w4 ⟨J,rfl,hle,h4⟩;have H4:=ah (aH hle h4.p1.drop);clear hle h4 H3 hld k0 k1 k2 k3;cases fo with
      | false=>
       have HF:Hid (rv=1):=ah (by rw[bU.out];rfl);go_wp2;rw[bK.out];exact⟨J,(by rw[HF.out];try rfl),H4.out.1,H4.out.2⟩
      | true=>
       have HF:Hid (rv=0):=ah (by rw[bU.out];rfl);go_wp2;rw[bK.out];exact⟨J,(by rw[HF.out];try rfl),H4.out.1,H4.out.2⟩
end Go.Proofs.YthfmaclnccdcbaaGreatDoor

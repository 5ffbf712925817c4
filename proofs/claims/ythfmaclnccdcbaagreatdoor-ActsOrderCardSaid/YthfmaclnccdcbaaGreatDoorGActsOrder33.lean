/- Part of a proof. -/
import Derived.Test.YthfmaclnccdcbaaGreatDoorGActsOrder32
namespace PA
open Go Go.RowKit
theorem WM {I:Mem} {z:Ac} {f:Fm} (h:rF.rel I [.int .i64 z.fo,.int .i64 z.fn,z.fi.v,z.fk.v] f):z.fo=f.op∧z.fn=f.num∧z.fi.n=f.ins.length∧z.fk.n=f.kids.length:=by
 obtain⟨o,n,i,k⟩:=f;obtain⟨a,c,b,d,e,-,-⟩:=dR.1 h;simp only[Sv.v,List.cons.injEq,Value.int.injEq,Value.slice.injEq,and_true,true_and] at e;obtain⟨e1,e2,⟨-,e3,-⟩,⟨-,e4,-⟩⟩:=e;exact⟨e1,e2,e3,e4⟩
theorem QC {I:Mem} {z:Ac} {x:Pa} (h:kX I z x):wC z=iD x:=by
 obtain⟨f1,f2,f3,f4⟩:=WM h.fx;have t1:=(aI h.td).1;have t2:=(aI h.tc).1;have t3:=(aI h.cl).1;have t4:=(aI h.ea).1;unfold wC iD;rw[h.f,h.o,h.p,h.q,h.u,h.m,h.sn,h.sd,f1,f2,f3,f4,t1,t2,t3,t4];have hc:∀n:Nat,((n:Int)==0)=decide (n=0):=fun n=>by cases n<;>simp<;>omega
 have hi:∀n:Int,(n==0)=decide (n=0):=fun n=>by by_cases hh:n=0<;>simp[hh]
 simp only[hc,hi,Bool.and_assoc]
theorem Tj {I:Mem} {z:Ac} {x:Pa} (h:kX I z x):kX I (iC z) (jZ x):=by
 have hk:=h.k;have hu:=h.u;constructor
 ·exact h.k
 ·exact h.d
 ·exact h.n
 ·show (if bP z.k=true then 0 else z.f)=if bP x.k=true then 0 else x.f
  rw[h.k,h.f]
 ·show (if z.k=0∨_ then _ else z.o)=if x.k=0∨_ then _ else x.o
  rw[h.k,h.o]
 ·show (if z.k=0∨_ then _ else z.p)=if x.k=0∨_ then _ else x.p
  rw[h.k,h.p]
 ·show (if z.k=0∨_ then _ else z.q)=if x.k=0∨_ then _ else x.q
  rw[h.k,h.q]
 ·show (if z.k=4∨_ then _ else z.u)=if x.k=4∨_ then _ else x.u
  rw[h.k,h.u]
 ·show (if z.k=4∨_ then _ else z.m)=if x.k=4∨_ then _ else x.m
  rw[h.k,h.m]
 ·show (if z.k=16 then _ else z.sn)=if x.k=16 then _ else x.sn
  rw[h.k,h.sn]
 ·show (if z.k=16 then _ else z.sd)=if x.k=16 then _ else x.sd
  rw[h.k,h.sd]
 ·show (rF.slice 4).rel I [Sv.v (if z.k=0 then ak else z.td)] (if x.k=0 then [] else x.td)
  rw[h.k];split
  ·exact aF _ _ _
  ·exact h.td
 ·show (kM.slice 5).rel I [Sv.v (if z.k=0 then ak else z.tc)] (if x.k=0 then [] else x.tc)
  rw[h.k];split
  ·exact aF _ _ _
  ·exact h.tc
 ·show (kM.slice 5).rel I [Sv.v (if z.k=3∨z.k=15∨(z.k=13∧z.u=2) then ak else z.cl)] (if x.k=3∨x.k=15∨(x.k=13∧x.u=2) then [] else x.cl)
  rw[h.k,h.u];split
  ·exact aF _ _ _
  ·exact h.cl
 ·show (MJ.slice 2).rel I [Sv.v (if z.k=0 then ak else z.ea)] (if x.k=0 then [] else x.ea)
  rw[h.k];split
  ·exact aF _ _ _
  ·exact h.ea
 ·show rF.rel I [.int .i64 (if z.k=19 then 0 else z.fo),.int .i64 (if z.k=19 then 0 else z.fn),Sv.v (if z.k=19 then ak else z.fi),Sv.v (if z.k=19 then ak else z.fk)] (if x.k=19 then Fm.zero else x.fx)
  rw[h.k]
  by_cases hh:x.k=19
  ·simp only[if_pos hh];exact dS I
  ·simp only[if_neg hh];exact h.fx
theorem Nq {I:Mem} {z:Ac} {x:Pa} (h:kX I z x):wC (iC z)=iD (jZ x):=QC (Tj h)
end PA
namespace Go.Proofs.YthfmaclnccdcbaaGreatDoor
open Go.RowKit PA
attribute [local go_sem ↓] bW dB aY
set_option maxRecDepth 100000 in
set_option maxHeartbeats 8000000 in
theorem yu {W w:World} {A:aC} {I:Mem} (z:Ac) (x:Pa) (hA:kX I z x) (hz:SX x) (h:Sat W w (sep (kn I) A)):
 Calls Tryz.prog 18 #[.agg z.cells.toArray] w fun e w'=>∃J,e=.returned (.int .i64 (if aZ x=true then 0 else 1))∧Mem.le I J∧Sat W w' (sep (kn J) A):=by
 have h1:=(h.alloc (.cells z.cells.toArray 36)).p1;obtain⟨B,hB⟩:=aB (w.heap.size);obtain⟨w1,hw1⟩:=aB (w.alloc (.cells z.cells.toArray 36));rw[←hB,←hw1] at h1;have HB:=ah (And.intro hB hw1);have hld:=gB h1.p1;obtain⟨rv,dK⟩:∃y:Int,y=if aZ x=true then 0 else 1:=⟨_,rfl⟩
 obtain⟨cl,hcl⟩:=aB (wC (iC z));obtain⟨fo,hfo⟩:=aB (aP x);obtain⟨b1,hb1⟩:=aB (aN z.k 0 21);obtain⟨b2,hb2⟩:=aB (aN z.d 0 131072);obtain⟨b3,hb3⟩:=aB (aN z.n 0 1099511627776);obtain⟨b4,hb4⟩:=aB (aN z.f 0 4095);have C1:Hid (∀w',Calls Tryz.prog 66 #[.int .i64 z.k,.int .i64 0,.int .i64 21] w' fun e w''=>e=.returned (.bool b1)∧w'=w''):=ah fun w'=>by rw[hb1];exact dV _ _ _ w'
 have C2:Hid (∀w',Calls Tryz.prog 66 #[.int .i64 z.d,.int .i64 0,.int .i64 131072] w' fun e w''=>e=.returned (.bool b2)∧w'=w''):=ah fun w'=>by rw[hb2];exact dV _ _ _ w'
 have C3:Hid (∀w',Calls Tryz.prog 66 #[.int .i64 z.n,.int .i64 0,.int .i64 1099511627776] w' fun e w''=>e=.returned (.bool b3)∧w'=w''):=ah fun w'=>by rw[hb3];exact dV _ _ _ w'
 have C4:Hid (∀w',Calls Tryz.prog 66 #[.int .i64 z.f,.int .i64 0,.int .i64 4095] w' fun e w''=>e=.returned (.bool b4)∧w'=w''):=ah fun w'=>by rw[hb4];exact dV _ _ _ w'
 have CB:Hid (∀w' A',Sat W w' A'→Calls Tryz.prog 65 #[.agg z.cells.toArray] w' fun e w''=>e=.returned (.agg (iC z).cells.toArray)∧Sat W w'' A'):=ah fun w' A' h'=>Jz z h'
 have CC:Hid (∀w' A',Sat W w' A'→Calls Tryz.prog 64 #[.agg (iC z).cells.toArray] w' fun e w''=>e=.returned (.bool cl)∧Sat W w'' A'):=ah fun w' A' h'=>by rw[hcl];exact Hg _ h'
 have CF:Hid (∀w' A',Sat W w' (sep (kn I) A')→Calls Tryz.prog 67 #[.agg z.cells.toArray] w' fun e w''=>∃J,e=.returned (.bool fo)∧Mem.le I J∧Sat W w'' (sep (kn J) A')):=ah fun w' A' h'=>by rw[hfo];exact EU z x hA hz h'
 have bM:Hid (rv=if (b1&&(b2&&(b3&&(b4&&(cl&&fo)))))=true then 0 else 1):=ah (by
  rw[dK,hb1,hb2,hb3,hb4,hcl,hfo,Nq hA,hA.k,hA.d,hA.n,hA.f];rfl)
 have H1:=ah h1;rw[←dK];obtain⟨Po,dU⟩:∃P:Ending→World→Prop,P=fun e w'=>∃J,e=.returned (.int .i64 rv)∧Mem.le I J∧Sat W w' (sep (kn J) A):=⟨_,rfl⟩
 rw[←dU];have bI:=ah dU;clear hA hz h h1 hB hw1 dK hb1 hb2 hb3 hb4 hcl hfo dU
 go_enter Tryz.func18,Tryz.ntmps18
 go_upto_region 1 with (fail)
 rw[←HB.out.1,←HB.out.2]
 go_wp2_with fail
 refine (CB.out _ _ H1.out).mono ?_;rintro e w2 ⟨rfl,h2⟩;clear hld;have H2:=ah h2;clear h2 H1 CB
 go_wp2_with fail
 refine (CC.out _ _ H2.out).mono ?_;rintro e w3 ⟨rfl,h3⟩;have hld:=gB h3.p1;have k0:=(au h3.p1 0 _ rfl).1;have k1:=(au h3.p1 1 _ rfl).1;have k2:=(au h3.p1 2 _ rfl).1;have k3:=(au h3.p1 3 _ rfl).1;have H3:=ah h3;clear h3 H2 CC;cases b1 with
 | false=>
  go_wp2_with fail
  refine (C1.out _).mono ?_;rintro e w2 ⟨rfl,rfl⟩;have HF:Hid (rv=1):=ah (by rw[bM.out];rfl);clear hld k0 k1 k2 k3
  go_wp2
  rw[bI.out];exact⟨I,(by rw[HF.out];try rfl),Mem.le_refl _,H3.out.p1.drop⟩
 | true=>
  cases b2 with
  | false=>
   go_wp2_with fail
   refine (C1.out _).mono ?_;rintro e w2 ⟨rfl,rfl⟩
   go_wp2_with fail
   refine (C2.out _).mono ?_;rintro e w2 ⟨rfl,rfl⟩;have HF:Hid (rv=1):=ah (by rw[bM.out];rfl);clear hld k0 k1 k2 k3
   go_wp2
   rw[bI.out];exact⟨I,(by rw[HF.out];try rfl),Mem.le_refl _,H3.out.p1.drop⟩
  | true=>
   cases b3 with
   | false=>
    go_wp2_with fail
    refine (C1.out _).mono ?_;rintro e w2 ⟨rfl,rfl⟩
    go_wp2_with fail
    refine (C2.out _).mono ?_;rintro e w2 ⟨rfl,rfl⟩
    go_wp2_with fail
    refine (C3.out _).mono ?_;rintro e w2 ⟨rfl,rfl⟩;have HF:Hid (rv=1):=ah (by rw[bM.out];rfl);clear hld k0 k1 k2 k3
    go_wp2
    rw[bI.out];exact⟨I,(by rw[HF.out];try rfl),Mem.le_refl _,H3.out.p1.drop⟩
   | true=>
    cases b4 with
    | false=>
     go_wp2_with fail
     refine (C1.out _).mono ?_;rintro e w2 ⟨rfl,rfl⟩
     go_wp2_with fail
     refine (C2.out _).mono ?_;rintro e w2 ⟨rfl,rfl⟩
     go_wp2_with fail
     refine (C3.out _).mono ?_;rintro e w2 ⟨rfl,rfl⟩
     go_wp2_with fail
     refine (C4.out _).mono ?_;rintro e w2 ⟨rfl,rfl⟩;have HF:Hid (rv=1):=ah (by rw[bM.out];rfl);clear hld k0 k1 k2 k3
     go_wp2
     rw[bI.out];exact⟨I,(by rw[HF.out];try rfl),Mem.le_refl _,H3.out.p1.drop⟩
    | true=>
     cases cl with
     | false=>
      go_wp2_with fail
      refine (C1.out _).mono ?_;rintro e w2 ⟨rfl,rfl⟩
      go_wp2_with fail
      refine (C2.out _).mono ?_;rintro e w2 ⟨rfl,rfl⟩
      go_wp2_with fail
      refine (C3.out _).mono ?_;rintro e w2 ⟨rfl,rfl⟩
      go_wp2_with fail
      refine (C4.out _).mono ?_;rintro e w2 ⟨rfl,rfl⟩;have HF:Hid (rv=1):=ah (by rw[bM.out];rfl);clear hld k0 k1 k2 k3
      go_wp2
      rw[bI.out];exact⟨I,(by rw[HF.out];try rfl),Mem.le_refl _,H3.out.p1.drop⟩
     | true=>
      go_wp2_with fail
      refine (C1.out _).mono ?_;rintro e w2 ⟨rfl,rfl⟩
      go_wp2_with fail
      refine (C2.out _).mono ?_;rintro e w2 ⟨rfl,rfl⟩
      go_wp2_with fail
      refine (C3.out _).mono ?_;rintro e w2 ⟨rfl,rfl⟩
      go_wp2_with fail
      refine (C4.out _).mono ?_;rintro e w2 ⟨rfl,rfl⟩
      go_wp2_with fail
      refine (CF.out _ _ H3.out).mono ?_;rintro e w4 ⟨J,rfl,hle,h4⟩;have H4:=ah (And.intro hle h4.p1.drop);clear hle h4 H3 hld k0 k1 k2 k3;cases fo with
      | false=>
       have HF:Hid (rv=1):=ah (by rw[bM.out];rfl)
       go_wp2
       rw[bI.out];exact⟨J,(by rw[HF.out];try rfl),H4.out.1,H4.out.2⟩
      | true=>
       have HF:Hid (rv=0):=ah (by rw[bM.out];rfl)
       go_wp2
       rw[bI.out];exact⟨J,(by rw[HF.out];try rfl),H4.out.1,H4.out.2⟩
end Go.Proofs.YthfmaclnccdcbaaGreatDoor

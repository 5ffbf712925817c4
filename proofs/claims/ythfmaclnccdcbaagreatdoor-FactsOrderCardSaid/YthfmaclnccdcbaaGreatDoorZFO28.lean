/- Part of a proof. -/
import Derived.Test.YthfmaclnccdcbaaGreatDoorZFO26
import Derived.Test.YthfmaclnccdcbaaGreatDoorZFO27
namespace Go.Proofs.YthfmaclnccdcbaaGreatDoor
open Go.RowKit PA
attribute [local go_sem ↓] aY bI aV
set_option maxRecDepth 100000 in
set_option maxHeartbeats 8000000 in
theorem Gs {W w:World} {A:aB} {I:Mem} (z:Ac) (x:Pa) (hA:lT I z x) (hz:YK x) (h:Sat W w (sep (kn I) A)):
 Calls Tryz.prog 119 #[.agg z.cells.toArray] w fun e w'=>∃J,e=.returned (.bool (qm x))∧Mem.le I J∧Sat W w' (sep (kn J) A):=by
 have h1:=(h.alloc (.cells z.cells.toArray 36)).p1;obtain⟨B,hB⟩:=aC (w.heap.size);obtain⟨w1,hw1⟩:=aC (w.alloc (.cells z.cells.toArray 36));rw[←hB,←hw1] at h1;have HB:=ah (aH hB hw1);obtain⟨b1,hb1⟩:=aC (aP z.o 0 11);obtain⟨b2,hb2⟩:=aC (aP z.p 1 4095);obtain⟨b3,hb3⟩:=aC (aP z.q (-1) 4095);obtain⟨te,hte⟩:=aC (FT x.td x.tc);obtain⟨ne,hne⟩:=aC (z.ea.n);obtain⟨rv,dQ⟩:=aC (qm x);have Ei:ne=x.ea.length:=by rw[hne];exact (aJ hA.ea).1
 have jW:rv=if b1=false∨b2=false∨b3=false∨z.q=z.f∨8<ne∨te≠0 then false else mX z.f x.ea x.ea.length:=by
  rw[dQ,hb1,hb2,hb3,hte,Ei,hA.o,hA.p,hA.q,hA.f];rfl
 have bU:=ah jW;have C1:Hid (∀w',Calls Tryz.prog 66 #[.int .i64 z.o,.int .i64 0,.int .i64 11] w' fun e w''=>e=.returned (.bool b1)∧w'=w''):=ah fun w'=>by rw[hb1];exact dZ _ _ _ w'
 have C2:Hid (∀w',Calls Tryz.prog 66 #[.int .i64 z.p,.int .i64 1,.int .i64 4095] w' fun e w''=>e=.returned (.bool b2)∧w'=w''):=ah fun w'=>by rw[hb2];exact dZ _ _ _ w'
 have C3:Hid (∀w',Calls Tryz.prog 66 #[.int .i64 z.q,.int .i64 (-1),.int .i64 4095] w' fun e w''=>e=.returned (.bool b3)∧w'=w''):=ah fun w'=>by rw[hb3];exact dZ _ _ _ w'
 have C4:Hid (∀w' A',Sat W w' (sep (kn I) A')→Calls Tryz.prog 138 #[.agg #[.slice z.td.a z.td.n z.td.c,.slice z.tc.a z.tc.n z.tc.c]] w' fun e w''=>∃J,e=.returned (.int .i64 te)∧Mem.le I J∧Sat W w'' (sep (kn J) A')):=ah fun w' A' h'=>by
  rw[hte];exact wY z.td.a z.td.n z.td.c z.tc.a z.tc.n z.tc.c x.td x.tc hA.td hA.tc hz.td hz.tc h'
 have UL:=ah (aH hA.ea Ei);have k3:=(ay h1.p1 3 _ rfl).1;have k4:=(ay h1.p1 4 _ rfl).1;have k5:=(ay h1.p1 5 _ rfl).1;have k6:=(ay h1.p1 6 _ rfl).1;have k11:=(ay h1.p1 11 _ rfl).1;have k12:=(ay h1.p1 12 _ rfl).1;have k14:=(ay h1.p1 14 _ rfl).1;have agl:(ne:Int)≤9223372036854775807:=by rw[hne];exact (aJ hA.ea).2.2
 have BO:w1.cell? ⟨B,14,none⟩=some (.slice z.ea.a ne z.ea.c):=by rw[hne];exact k14
 have XZ:=ah hne;have H1:=ah h1;rw[←dQ];obtain⟨Po,dS⟩:∃P:Ending→World→Prop,P=fun e w'=>∃J,e=.returned (.bool rv)∧Mem.le I J∧Sat W w' (sep (kn J) A):=⟨_,rfl⟩
 rw[←dS];have bK:=ah dS;clear hA hz h h1 hB hw1 hb1 hb2 hb3 hte hne dQ jW Ei k14 dS;go_enter Tryz.func119,Tryz.ntmps119;go_upto_region 1 with fail;rw[←HB.out.1,←HB.out.2];go_cut [40] from 6 (fun v wx=>∃(bb:Bool) (J:Mem),v=.bool bb∧Hid (bb=true↔(b1=false∨b2=false∨b3=false∨z.q=z.f∨8<ne∨te≠0))∧Mem.le I J∧Sat W wx (sep (kn J) (sep (blk B (.cells z.cells.toArray 36 (0,0))) A)))
 case first=>
  as_aux_lemma=>
  cases b1 with
  | false=>
   go_wp2_with fail;refine (C1.out _).mono ?_;rintro e w2 ⟨rfl,rfl⟩;go_wp2;go_meet;case rel=>exact⟨true,I,rfl,ah (by simp),bW _,H1.out⟩
  | true=>
   cases b2 with
   | false=>
    go_wp2_with fail;refine (C1.out _).mono ?_;rintro e w2 ⟨rfl,rfl⟩;go_wp2_with fail;refine (C2.out _).mono ?_;rintro e w2 ⟨rfl,rfl⟩;go_wp2;go_meet;case rel=>exact⟨true,I,rfl,ah (by simp),bW _,H1.out⟩
   | true=>
    cases b3 with
    | false=>
     go_wp2_with fail;refine (C1.out _).mono ?_;rintro e w2 ⟨rfl,rfl⟩;go_wp2_with fail;refine (C2.out _).mono ?_;rintro e w2 ⟨rfl,rfl⟩;go_wp2_with fail;refine (C3.out _).mono ?_;rintro e w2 ⟨rfl,rfl⟩;go_wp2;go_meet;case rel=>exact⟨true,I,rfl,ah (by simp),bW _,H1.out⟩
    | true=>
     by_cases c4:z.q=z.f
     ·have c4':(z.q==z.f)=true:=by simpa using c4
      have ZX:=ah c4;clear c4;go_wp2_with fail;refine (C1.out _).mono ?_;rintro e w2 ⟨rfl,rfl⟩;go_wp2_with fail;refine (C2.out _).mono ?_;rintro e w2 ⟨rfl,rfl⟩;go_wp2_with fail;refine (C3.out _).mono ?_;rintro e w2 ⟨rfl,rfl⟩;go_wp2;go_meet;case rel=>exact⟨true,I,rfl,ah (by simp[ZX.out]),bW _,H1.out⟩
     ·have c4':(z.q==z.f)=false:=by simpa using c4
      have ZX:=ah c4;clear c4;by_cases c5:8<ne
      ·have c5':(8:Int)<(ne:Int):=by omega
       have ZY:=ah c5;clear c5;go_wp2_with fail;refine (C1.out _).mono ?_;rintro e w2 ⟨rfl,rfl⟩;go_wp2_with fail;refine (C2.out _).mono ?_;rintro e w2 ⟨rfl,rfl⟩;go_wp2_with fail;refine (C3.out _).mono ?_;rintro e w2 ⟨rfl,rfl⟩;go_wp2;go_meet;case rel=>exact⟨true,I,rfl,ah (by simp[ZY.out]),bW _,H1.out⟩
      ·have c5':¬(8:Int)<(ne:Int):=by omega
       have ZY:=ah c5;clear c5;go_wp2_with fail;refine (C1.out _).mono ?_;rintro e w2 ⟨rfl,rfl⟩;go_wp2_with fail;refine (C2.out _).mono ?_;rintro e w2 ⟨rfl,rfl⟩;go_wp2_with fail;refine (C3.out _).mono ?_;rintro e w2 ⟨rfl,rfl⟩;go_wp2_with fail;refine (C4.out _ _ H1.out).mono ?_;rintro e w2 ⟨J,rfl,hle,h2⟩;have H2:=ah (aH hle h2);clear hle h2 H1 k3 k4 k5 k6 k11 k12 BO;go_wp2;go_meet;case rel=>exact⟨_,J,rfl,ah (by simp[ZX.out,ZY.out];intro hh;exact absurd hh (Int.not_lt.2 c5')),H2.out.1,H2.out.2⟩
 case rest=>
  as_aux_lemma=>
  obtain⟨bb,J,rfl,vk,hle,h2⟩:=hcut;have H2:=ah h2;have iL:=ah hle;clear k3 k4 k5 k6 k11 k12 BO h2 hle H1 C1 C2 C3 C4;cases bb with
  | true=>
   have HF:Hid (rv=false):=ah (by rw[bU.out,if_pos (vk.out.1 (by first|rfl|trivial))]);have HF2:=ah H2.out.p1.drop;clear H2;go_wp2;rw[bK.out];exact⟨J,(by rw[HF.out];try rfl),iL.out,HF2.out⟩
  | false=>
   have acO:Hid (rv=mX z.f x.ea ne):=ah (by
    have hn:¬(b1=false∨b2=false∨b3=false∨z.q=z.f∨8<ne∨te≠0):=fun e=>by have:=vk.out.2 e;simp at this
    rw[bU.out,if_neg hn,←UL.out.2])
   have ne8:(ne:Int)≤8:=by
    have hn:¬8<ne:=fun e=>by have:=vk.out.2 (.inr (.inr (.inr (.inr (.inl e)))));simp at this
    omega
   clear bU vk;go_wp2_with fail;go_loopw [3] (fun iv wr=>∃(i:Nat),iv=.int .i64 i∧i≤ne∧Hid (mX z.f x.ea i=true)∧Sat W wr (sep (kn J) (sep (blk B (.cells z.cells.toArray 36 (0,0))) A))) (fun iv _=>ne-(intOf iv).toNat)
   case atStart=>exact⟨0,rfl,by omega,ah rfl,H2.out⟩
   case round=>
    obtain⟨i,rfl,hi,HT,hS⟩:=hrel;have BO:wr.cell? ⟨B,14,none⟩=some (.slice z.ea.a ne z.ea.c):=by rw[XZ.out];exact (ay hS.p1 14 _ rfl).1
    by_cases hlt:i<ne
    ·have hltz:(i:Int)<(ne:Int):=by omega
     obtain⟨ev,hev⟩:∃ev,x.ea[i]?=some ev:=⟨_,iM (by have:=UL.out.2;omega)⟩
     obtain⟨b,o,hab,hcell⟩:=yH UL.out.1 hev;rw[hab] at BO;obtain⟨j0,j1⟩:=hcell wr (fun i o hb=>hS.ext i o (iL.out i o hb));have ne':wr.cell? ⟨B,3,none⟩=some (.int .i64 z.f):=(ay hS.p1 3 _ rfl).1;have he0:=hS.alloc (.cells #[.int .i64 ev.file,.int .i64 ev.day] 93);obtain⟨G,hG⟩:=aC (wr.heap.size);rw[←hG] at he0;obtain⟨we,hwe⟩:=aC (wr.alloc (.cells #[.int .i64 ev.file,.int .i64 ev.day] 93));have he2:Sat W we (sep (blk G (.cells #[.int .i64 ev.file,.int .i64 ev.day] 93)) (sep (kn J) (sep (blk B (.cells z.cells.toArray 36 (0,0))) A))):=by rw[hwe];exact he0
     have HE:=ah (aH hG hwe);have H3:=ah he2;have HBAD:Hid (Jf z.f x.ea i=false→rv=false):=ah fun e=>by rw[acO.out];exact LW hlt e
     have HAT:=ah (Rz (f:=z.f) hev);have HI:=ah (aH hlt hev);obtain⟨b1,hb1⟩:=aC (aP ev.file 0 4095);obtain⟨b2,hb2⟩:=aC (aP ev.day 0 131072);have C1:Hid (∀w',Calls Tryz.prog 66 #[.int .i64 ev.file,.int .i64 0,.int .i64 4095] w' fun e w''=>e=.returned (.bool b1)∧w'=w''):=ah fun w'=>by rw[hb1];exact dZ _ _ _ w'
     have C2:Hid (∀w',Calls Tryz.prog 66 #[.int .i64 ev.day,.int .i64 0,.int .i64 131072] w' fun e w''=>e=.returned (.bool b2)∧w'=w''):=ah fun w'=>by rw[hb2];exact dZ _ _ _ w'
     rw[←hb1,←hb2] at HAT;clear hG hwe he0 he2 hlt hev hb1 hb2 hcell hS H2 hi;go_upto_region 7 with fail;simp only[←HE.out.1];rw[←HE.out.2];have e0:we.cell? ⟨G,0,none⟩=some (.int .i64 ev.file):=by rw[H3.out.cell 0];rfl
     have e1:we.cell? ⟨G,1,none⟩=some (.int .i64 ev.day):=by rw[H3.out.cell 1];rfl
     have f3:we.cell? ⟨B,3,none⟩=some (.int .i64 z.f):=(ay H3.out.p2 3 _ rfl).1;have KE:=ah H3.out.drop.p1.drop;clear ne' j0 j1 BO;cases b1 with
     | false=>
      have HF:Hid (rv=false):=ah (HBAD.out (by rw[HAT.out];rfl));go_wp2_with fail;refine (C1.out _).mono ?_;rintro e w2 ⟨rfl,rfl⟩;clear e0 e1 f3;go_wp2;rw[bK.out];exact⟨J,(by rw[HF.out];try rfl),iL.out,KE.out⟩
     | true=>
      by_cases c4:ev.file=z.f
      ·have c4':(ev.file==z.f)=true:=by simpa using c4
       have HF:Hid (rv=false):=ah (HBAD.out (by rw[HAT.out];simp[c4]));clear c4;go_wp2_with fail;refine (C1.out _).mono ?_;rintro e w2 ⟨rfl,rfl⟩;go_wp2;rw[bK.out];exact⟨J,(by rw[HF.out];try rfl),iL.out,KE.out⟩
      ·have c4':(ev.file==z.f)=false:=by simpa using c4
       have ZX:=ah c4;clear c4;cases b2 with
       | false=>
        have HF:Hid (rv=false):=ah (HBAD.out (by rw[HAT.out];simp));go_wp2_with fail;refine (C1.out _).mono ?_;rintro e w2 ⟨rfl,rfl⟩;go_wp2_with fail;refine (C2.out _).mono ?_;rintro e w2 ⟨rfl,rfl⟩;clear e0 e1 f3;go_wp2;rw[bK.out];exact⟨J,(by rw[HF.out];try rfl),iL.out,KE.out⟩
       | true=>
        go_wp2_with fail;refine (C1.out _).mono ?_;rintro e w2 ⟨rfl,rfl⟩;go_wp2_with fail;refine (C2.out _).mono ?_;rintro e w2 ⟨rfl,rfl⟩;clear e0 e1 f3 C1 C2 c4';go_wp2_with fail;go_loopw [5] (fun kv wr=>∃(k:Nat),kv=.int .i64 k∧k≤i∧Hid (((x.ea.take k).any fun g=>decide (g.file=ev.file))=false)∧Sat W wr (sep (blk G (.cells #[.int .i64 ev.file,.int .i64 ev.day] 93)) (sep (kn J) (sep (blk B (.cells z.cells.toArray 36 (0,0))) A)))) (fun kv _=>i-(intOf kv).toNat)
        case atStart=>exact⟨0,rfl,by omega,ah rfl,H3.out⟩
        case round=>
         obtain⟨k,rfl,hk,HK,hS⟩:=hrel;by_cases hki:k<i
         ·have hkz:(k:Int)<(i:Int):=by omega
          have hkn:(k:Int)<(ne:Int):=by omega
          have hk0:(0:Int)≤(k:Int):=by omega
          obtain⟨gv,hgv⟩:∃gv,x.ea[k]?=some gv:=⟨_,iM (by have:=UL.out.2;have:=HI.out.1;omega)⟩
          obtain⟨b',o',hab',hcell⟩:=yH UL.out.1 hgv;rw[hab] at hab';cases hab';have hd:=hS.drew;obtain⟨j0,j1⟩:=hcell wr.drew (fun i o hb=>hd.p1.ext i o (iL.out i o hb));have e0:wr.drew.cell? ⟨G,0,none⟩=some (.int .i64 ev.file):=by rw[hd.cell 0];rfl
          have BO:wr.drew.cell? ⟨B,14,none⟩=some (.slice (some ⟨b,o,none⟩) ne z.ea.c):=by rw[XZ.out,←hab];exact (ay hd.p2 14 _ rfl).1
          have HD:=ah hd;have XV:=ah (aH hki hgv);clear hS hd hgv hki hk hcell H3;by_cases c5:gv.file=ev.file
          ·have c5':(gv.file==ev.file)=true:=by simpa using c5
           have HF:Hid (rv=false):=ah (HBAD.out (by
            have:((x.ea.take i).any fun g=>decide (g.file=ev.file))=true:=List.any_eq_true.2 ⟨gv,List.mem_iff_getElem?.2 ⟨k,by rw[List.getElem?_take_of_lt XV.out.1];exact XV.out.2⟩,by simpa using c5⟩;rw[HAT.out,this];simp))
           have HF2:=ah HD.out.drop.p1.drop;clear c5;go_upto_region 12 with fail;refine aG rfl (fun _=>True) [(0,.p),(1,.t),(2,.p),(3,.p),(4,.p),(5,.t),(6,.p),(7,.t),(8,.p)] (by kernel_rfl) ?_;have hS0:True:=trivial;refine bG ?_;refine dJ ?_;clear j0 j1 e0 BO;go_wp2;rw[bK.out];exact⟨J,(by rw[HF.out];try rfl),iL.out,HF2.out⟩
          ·have c5':(gv.file==ev.file)=false:=by simpa using c5
           have ZY:=ah c5;clear c5;go_upto_region 12 with fail;refine aG rfl (fun _=>True) [(0,.p),(1,.t),(2,.p),(3,.p),(4,.p),(5,.t),(6,.p),(7,.t),(8,.p)] (by kernel_rfl) ?_;have hS0:True:=trivial;refine bG ?_;refine dJ ?_;clear j0 j1 e0 BO;go_wp2;go_roundw;case rel=>exact⟨k+1,by go_num,by have:=XV.out.1;omega,ah (by rw[Lh XV.out.2,HK.out];simpa using ZY.out),HD.out⟩
           case measure=>simp[intOf];have:=XV.out.1;omega
         ·obtain rfl:k=i:=by omega
          have HT2:Hid (mX z.f x.ea (k+1)=true):=ah (by
           rw[Hf,HT.out,HAT.out,HK.out];simpa using ZX.out)
          have HF2:=ah hS.drop;have HI2:=ah HI.out.1;clear hS H3 HI KE hki hk;go_wp2;go_roundw;case rel=>exact⟨k+1,by go_num,by have:=HI2.out;omega,HT2,HF2.out⟩
          case measure=>simp[intOf];have:=HI2.out;omega
    ·obtain rfl:i=ne:=by omega
     have HF:Hid (rv=true):=ah (by rw[acO.out];exact HT.out);have HF2:=ah hS.p1.drop;clear hS H2;go_wp2;rw[bK.out];exact⟨J,(by rw[HF.out];try rfl),iL.out,HF2.out⟩
end Go.Proofs.YthfmaclnccdcbaaGreatDoor

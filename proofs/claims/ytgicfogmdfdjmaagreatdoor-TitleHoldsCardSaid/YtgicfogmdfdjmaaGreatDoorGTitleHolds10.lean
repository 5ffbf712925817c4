/- Part of a proof. -/
import Derived.Test.YtgicfogmdfdjmaaGreatDoorGTitleHolds9
import Derived.Great.BuildSlice
namespace Go.Proofs.YtgicfogmdfdjmaaGreatDoor
open Go.RowKit PA
theorem Ns:(Tryz.prog.info? 57).map (fun i=>(i.zero,i.size,i.bytes))=some (some (.agg #[.int .i64 0,.int .i64 0]),2,16):=by kernel_rfl
def Zx (p:Array (Nat×Value)):Sem Value:=Instr.buildSlice 72 7 p
theorem BO (p:Array (Nat×Value)):Instr.buildSlice 72 7 p=Zx p:=rfl
def Zy (p:Array (Nat×Value)):Sem Value:=Instr.buildSlice 29 1 p
theorem BP (p:Array (Nat×Value)):Instr.buildSlice 29 1 p=Zy p:=rfl
theorem Qz (w:World):(Zx #[(0,.agg #[.int .i64 1,.int .i64 1]),(1,.agg #[.int .i64 1,.int .i64 2]),(2,.agg #[.int .i64 1,.int .i64 3]),(3,.agg #[.int .i64 2,.int .i64 3]),(4,.agg #[.int .i64 1,.int .i64 6]),(5,.agg #[.int .i64 1,.int .i64 1048576]),(6,.agg #[.int .i64 1,.int .i64 1048575])]).run Tryz.prog w=.ok (.slice (some ⟨w.heap.size,0,none⟩) 7 7) (w.alloc (.cells #[.int .i64 1,.int .i64 1,.int .i64 1,.int .i64 2,.int .i64 1,.int .i64 3,.int .i64 2,.int .i64 3,.int .i64 1,.int .i64 6,.int .i64 1,.int .i64 1048576,.int .i64 1,.int .i64 1048575] 57)):=by
 obtain⟨i,h1,h2,h3,h4⟩:=info_parts Ns
 exact run_buildSlice w 72 57 7 _ _ i _ Tryz.underlying72 h1 h2 (by rw[h3];omega) (by rw[h3];omega) (by rw[h3];kernel_rfl)
theorem bs_act (z:Ac) (w:World):(Zy #[(0,.agg #[.int .i64 z.k,.int .i64 z.d,.int .i64 z.n,.int .i64 z.f,.int .i64 z.o,.int .i64 z.p,.int .i64 z.q,.int .i64 z.u,.int .i64 z.m,.int .i64 z.sn,.int .i64 z.sd,.slice z.td.a z.td.n z.td.c,.slice z.tc.a z.tc.n z.tc.c,.slice z.cl.a z.cl.n z.cl.c,.slice z.ea.a z.ea.n z.ea.c,.int .i64 z.fo,.int .i64 z.fn,.slice z.fi.a z.fi.n z.fi.c,.slice z.fk.a z.fk.n z.fk.c])]).run Tryz.prog w=.ok (.slice (some ⟨w.heap.size,0,none⟩) 1 1) (w.alloc (.cells #[.int .i64 z.k,.int .i64 z.d,.int .i64 z.n,.int .i64 z.f,.int .i64 z.o,.int .i64 z.p,.int .i64 z.q,.int .i64 z.u,.int .i64 z.m,.int .i64 z.sn,.int .i64 z.sd,.slice z.td.a z.td.n z.td.c,.slice z.tc.a z.tc.n z.tc.c,.slice z.cl.a z.cl.n z.cl.c,.slice z.ea.a z.ea.n z.ea.c,.int .i64 z.fo,.int .i64 z.fn,.slice z.fi.a z.fi.n z.fi.c,.slice z.fk.a z.fk.n z.fk.c] 67)):=by
 obtain⟨i,h1,h2,h3,h4⟩:=info_parts jR
 exact run_buildSlice w 29 67 1 _ _ i _ Tryz.underlying29 h1 h2 (by rw[h3];omega) (by rw[h3];omega) (by rw[h3];kernel_rfl)
attribute [local go_sem ↓] bQ bZ BO BP
attribute [local go_sem] Gu
set_option maxRecDepth 100000 in
set_option maxHeartbeats 8000000 in
theorem G5 {W w:World} {A:aG} {I:Mem} (a:Option Addr) (c:Nat) (l:List Int) (hv:(qI.slice 1).rel I [.slice a l.length c] l) (hl:∀z∈l,IW z) (h:Sat W w (sep (kn I) A)):
 Calls Tryz.prog 21 #[.slice a l.length c] w fun e w'=>∃a' n c',e=.returned (.slice a' n c')∧n=(iM l).length∧Sat W w' (sep (aK 67 19 a' n c' (bI (iM l))) (sep (kn I) A)):=by
 have XJ:Hid (∀(i:Nat) (n:Int) (w':World) (A':aG),0<n→n≤1048576→i≤1000→Sat W w' (sep (kn I) A')→Calls Tryz.prog 32 #[.slice a l.length c,.int .i64 i,.int .i64 n] w' fun e w''=>e=.returned (.int .i64 (wH l i n))∧w'=w''):=
  ah fun i n w' A' q1 q2 q3 q4=>JU a c l i n q1 (by omega) q3 hv hl q4
 have hl0:=BJ (E:=67) (k:=19) h (bI [Qx,Qy]) 2 rfl (by unfold maxLen;omega)
 obtain⟨B,hB⟩:=aC (w.heap.size)
 obtain⟨w1,hw1⟩:=aC (w.alloc (.cells (bI [Qx,Qy]).toArray 67))
 rw[←hB,←hw1] at hl0
 have hlen:(l.length:Int)≤9223372036854775807:=by
  obtain⟨a',c',e,hsw,-⟩:=kX.1 hv
  have h1:=hsw.1;have h2:=hsw.2.1;unfold maxLen at h2;omega
 obtain⟨ll,hll⟩:=aC (l.length)
 rw[←hll] at hlen XJ ⊢
 have LK:=ah hll
 have HB:=ah hB
 have HW1:=ah hw1
 have HL0:=ah hl0
 clear hv hl h hl0 hB hw1 hll
 go_enter Tryz.func21,Tryz.ntmps21
 go_upto_region 2 with (fail)
 rw[←HB.out]
 change Code.wp _ _ _ _ (w.alloc (.cells (bI [Qx,Qy]).toArray 67))
 rw[←HW1.out]
 generalize Value.agg #[.int .i64 0,.int .i64 100,.int .i64 0,.int .i64 2,.int .i64 0,.int .i64 1,.int .i64 (-1),.int .i64 0,.int .i64 0,.int .i64 0,.int .i64 0,.slice none 0 0,.slice none 0 0,.slice none 0 0,.slice none 0 0,.int .i64 0,.int .i64 0,.slice none 0 0,.slice none 0 0]=v8
 generalize Value.agg #[.int .i64 0,.int .i64 90,.int .i64 1,.int .i64 7,.int .i64 0,.int .i64 2,.int .i64 (-1),.int .i64 0,.int .i64 0,.int .i64 0,.int .i64 0,.slice none 0 0,.slice none 0 0,.slice none 0 0,.slice none 0 0,.int .i64 0,.int .i64 0,.slice none 0 0,.slice none 0 0]=v9
 go_wp2
 go_loopw [4,3] (fun iv ov wr=>∃(i n1:Nat) (a1:Option Addr) (c1:Nat) (vs:List Value),iv=.int .i64 i∧i≤12∧ov=.slice a1 n1 c1∧Hid (i≤BM l∧vs=bI ([Qx,Qy]++(List.range i).map (GZ l)))∧n1=i+2∧Sat W wr (sep (aK 67 19 a1 n1 c1 vs) (sep (kn I) A))) (fun iv _ _=>13-(intOf iv).toNat)
 case atStart=>exact⟨0,2,_,_,_,rfl,by omega,rfl,ah ⟨by omega,rfl⟩,rfl,HL0.out⟩
 case round=>
  obtain⟨i,n1,a1,c1,vs,rfl,hi,rfl,HV,hn1,hS⟩:=hrel
  have jq:=ah hn1
  have Zz:n1≤14:=by omega
  clear hn1
  by_cases hlt:i<BM l
  ·as_aux_lemma=>
   have hg:3*i<ll∧i<12:=by
    rw[LK.out]
    unfold BM at hlt
    omega
   have hg1:3*(i:Int)<(ll:Int):=by omega
   have hg2:(i:Int)<12:=by omega
   obtain⟨j1,hj1⟩:=aC (3*i)
   obtain⟨j2,hj2⟩:=aC (3*i+1)
   obtain⟨j3,hj3⟩:=aC (3*i+2)
   have e1:3*(i:Int)=(j1:Int):=by omega
   have e2:(j1:Int)+1=(j2:Int):=by omega
   have e3:(j1:Int)+2=(j3:Int):=by omega
   obtain⟨kk,hkk,hkl⟩:=oV l j1 1048576 (by omega)
   obtain⟨nn,hnn,hnl⟩:=oV l j2 1048576 (by omega)
   obtain⟨dd,hdd,hdl⟩:=oV l j3 40 (by omega)
   have p1:=XJ.out j1 1048576 wr _ (by omega) (by omega) (by omega) hS.p1
   have p2:=XJ.out j2 1048576 wr _ (by omega) (by omega) (by omega) hS.p1
   have p3:=XJ.out j3 40 wr _ (by omega) (by omega) (by omega) hS.p1
   rw[hkk] at p1
   rw[hnn] at p2
   rw[hdd] at p3
   have P1:=ah p1
   have P2:=ah p2
   have P3:=ah p3
   have aeK:Hid (GZ l i=Nr kk nn dd i):=ah (by unfold GZ;rw[←hj2,←hj3,←hj1,hkk,hnn,hdd];simp)
   obtain⟨k4,hk4⟩:=aC (kk % 4)
   obtain⟨kq,hkq⟩:=aC (kk / 4)
   obtain⟨k3,hk3⟩:=aC (kq % 3)
   obtain⟨s,hs⟩:=aC ((k4+1+k3) % 4)
   obtain⟨k11,ace⟩:=aC (kk % 11)
   obtain⟨k5,hk5⟩:=aC (kk % 5)
   obtain⟨k23,acf⟩:=aC (kk % 23)
   obtain⟨n30,acg⟩:=aC (nn % 30)
   obtain⟨n7,WI⟩:=aC (nn % 7)
   have t4:(kk:Int).tmod 4=(k4:Int):=by rw[Int.tmod_eq_emod_of_nonneg (by omega)];omega
   have tq:(kk:Int).tdiv 4=(kq:Int):=by rw[Int.tdiv_eq_ediv_of_nonneg (by omega)];omega
   have t3:(kq:Int).tmod 3=(k3:Int):=by rw[Int.tmod_eq_emod_of_nonneg (by omega)];omega
   have ts:((k4:Int)+1+(k3:Int)).tmod 4=(s:Int):=by rw[Int.tmod_eq_emod_of_nonneg (by omega)];omega
   have t11:(kk:Int).tmod 11=(k11:Int):=by rw[Int.tmod_eq_emod_of_nonneg (by omega)];omega
   have t5:(kk:Int).tmod 5=(k5:Int):=by rw[Int.tmod_eq_emod_of_nonneg (by omega)];omega
   have t23:(kk:Int).tmod 23=(k23:Int):=by rw[Int.tmod_eq_emod_of_nonneg (by omega)];omega
   have t30:(nn:Int).tmod 30=(n30:Int):=by rw[Int.tmod_eq_emod_of_nonneg (by omega)];omega
   have t7:(nn:Int).tmod 7=(n7:Int):=by rw[Int.tmod_eq_emod_of_nonneg (by omega)];omega
   have HT3:=ah (And.intro t11 (And.intro t5 (And.intro t23 (And.intro t30 t7))))
   have HT4:=ah (And.intro t4 (And.intro tq (And.intro t3 ts)))
   have qL:Hid ((k4<4∧k3<3∧s<4∧n7<7∧n30<30)∧i≤12∧(kk:Int)<1048576∧(nn:Int)<1048576∧(dd:Int)<40):=ah (by omega)
   have HK:=ah (And.intro hk4 (And.intro hkq (And.intro hk3 (And.intro hs (And.intro ace (And.intro hk5 (And.intro acf (And.intro acg WI))))))))
   have HS:=ah hS
   have HG:=ah (And.intro hg hlt)
   clear p1 p2 p3 hkk hnn hdd hj1 hj2 hj3 hk4 hkq hk3 hs ace hk5 acf acg WI t11 t5 t23 t30 t7 hS hg t4 tq t3 ts hi hkl hnl hdl hlt
   go_wp2_with fail
   refine P1.out.mono ?_
   rintro e w2 ⟨rfl,rfl⟩
   clear P1
   go_wp2_with fail
   refine P2.out.mono ?_
   rintro e w2 ⟨rfl,rfl⟩
   clear P2
   go_wp2_with fail
   refine P3.out.mono ?_
   rintro e w2 ⟨rfl,rfl⟩
   clear P3 e1 e2 e3 hg1
   obtain⟨t4,tq,t3,ts⟩:=HT4.out
   have bk:(kk:Int)<1048576:=qL.out.2.2.1
   have bd:(dd:Int)<40:=qL.out.2.2.2.2
   have b4:(k4:Int)<4:=by have:=qL.out.1.1;omega
   clear tq t3 ts
   go_upto_region 8 with (fail)
   have hx1:xZ kk i dd=⟨16,95+(dd:Int),5+2*(i:Int),2,0,1+(k4:Int),1+(s:Int),0,0,0,0,Sv.none,Sv.none,Sv.none,Sv.none,0,0,Sv.none,Sv.none⟩:=by
    unfold xZ mX
    rw[HK.out.2.2.2.1,HK.out.2.2.1,HK.out.2.1,HK.out.1]
   obtain⟨q,hq⟩:=aC (wr.heap.size)
   have hal:=HS.out.alloc (.cells (xZ kk i dd).cells.toArray 67)
   rw[hx1,←hq] at hal
   have EO:=ah hal
   have HQ:=ah hq
   obtain⟨t4,tq,t3,ts⟩:=HT4.out
   obtain⟨t11,t5,t23,t30,t7⟩:=HT3.out
   have b3:(k3:Int)<3:=by have:=qL.out.1.2.1;omega
   have bq:(kq:Int)<1048576:=by have:=HK.out.2.1;have:=qL.out.2.2.1;omega
   have bs:(s:Int)<4:=by have:=qL.out.1.2.2.1;omega
   have b11:(k11:Int)<11:=by have:=HK.out.2.2.2.2.1;omega
   have b5:(k5:Int)<5:=by have:=HK.out.2.2.2.2.2.1;omega
   have b23:(k23:Int)<23:=by have:=HK.out.2.2.2.2.2.2.1;omega
   clear hal hq t5 t23 t30 t7
   go_upto_if 56 with (fail)
   go_cut [] (fun wx=>∃x:Ac,Hid (x=rU kk (xZ kk i dd))∧Sat W wx (sep (blk q (.cells x.cells.toArray 67 (0,0))) (sep (aK 67 19 a1 n1 c1 vs) (sep (kn I) A))))
   case first=>
    as_aux_lemma=>
     by_cases e11:kk % 11=10
     ·have aaF:(k11:Int)=10:=by have:=HK.out.2.2.2.2.1;omega
      rw[show ((k11:Int)==10)=true by rw[aaF];rfl]
      have HE:=ah e11
      clear e11
      go_wp2
      go_meet
      case rel=>
       refine⟨rU kk (xZ kk i dd),ah rfl,?_⟩
       have e:rU kk (xZ kk i dd)=⟨16,95+(dd:Int),5+2*(i:Int),7,0,1+(k4:Int),1+(s:Int),0,0,0,0,Sv.none,Sv.none,Sv.none,Sv.none,0,0,Sv.none,Sv.none⟩:=by
        unfold rU;rw[if_pos HE.out,hx1]
       rw[e]
       have h9:=HS.out.alloc (.cells (Ac.cells ⟨16,95+(dd:Int),5+2*(i:Int),7,0,1+(k4:Int),1+(s:Int),0,0,0,0,Sv.none,Sv.none,Sv.none,Sv.none,0,0,Sv.none,Sv.none⟩).toArray 67)
       rw[←HQ.out] at h9
       exact h9
     ·have aaF:¬(k11:Int)=10:=by have:=HK.out.2.2.2.2.1;omega
      rw[show ((k11:Int)==10)=false by simpa using aaF]
      have HE:=ah e11
      clear e11
      go_wp2
      go_meet
      case rel=>
       refine⟨rU kk (xZ kk i dd),ah rfl,?_⟩
       have e:rU kk (xZ kk i dd)=xZ kk i dd:=by unfold rU;rw[if_neg HE.out]
       rw[e,hx1]
       have h9:=HS.out.alloc (.cells (Ac.cells ⟨16,95+(dd:Int),5+2*(i:Int),2,0,1+(k4:Int),1+(s:Int),0,0,0,0,Sv.none,Sv.none,Sv.none,Sv.none,0,0,Sv.none,Sv.none⟩).toArray 67)
       rw[←HQ.out] at h9
       exact h9
   case rest=>
    as_aux_lemma=>
     rw[←HQ.out]
     obtain⟨x,hx,h2⟩:=hcut
     have hxd:x.d=95+(dd:Int):=by
      rw[hx.out];unfold rU;split<;>rw[hx1]
     obtain⟨xd,aaG⟩:=aC (x.d)
     have bxd:0≤xd∧xd<200:=by have:=qL.out.2.2.2.2;omega
     have ach:=bxd.1
     have aci:=bxd.2
     obtain⟨f0a,f0b⟩:=aB h2 0 (.int .i64 x.k) rfl
     obtain⟨f1a,f1b⟩:=aB h2 1 (.int .i64 x.d) rfl
     obtain⟨f7a,f7b⟩:=aB h2 7 (.int .i64 x.u) rfl
     rw[←aaG] at f1a
     have HX:=ah (And.intro hx.out aaG)
     have H2:=ah h2
     have acj:(n30:Int)<30:=by have:=qL.out.1.2.2.2.2;omega
     obtain⟨-,t5,t23,t30,t7⟩:=HT3.out
     clear hx hxd aaG bxd h2 EO hx1 t4 tq t3 ts t11 b3 bq bs b11 bk bd b4
     go_upto_if 60 with (fail)
     go_cut [] (fun wx=>∃x':Ac,Hid (x'=gU kk nn x)∧Sat W wx (sep (blk q (.cells x'.cells.toArray 67 (0,0))) (sep (aK 67 19 a1 n1 c1 vs) (sep (kn I) A))))
     case first=>
      as_aux_lemma=>
       by_cases e5:kk % 5=4
       ·have k5z:(k5:Int)=4:=by have:=HK.out.2.2.2.2.2.1;omega
        rw[show ((k5:Int)==4)=true by rw[k5z];rfl]
        have HE:=ah e5
        clear e5 t7
        go_wp2
        go_meet
        case rel=>
         refine⟨gU kk nn x,ah rfl,?_⟩
         have e:gU kk nn x={ x with k:=17,u:=xd+(n30:Int) }:=by
          unfold gU;rw[if_pos HE.out,HX.out.2,HK.out.2.2.2.2.2.2.2.1]
         rw[e]
         have h9:=(H2.out.setCell 0 (.int .i64 17)).setCell 7 (.int .i64 (xd+(n30:Int)))
         have e9:(x.cells.toArray.setIfInBounds 0 (.int .i64 17)).setIfInBounds 7 (.int .i64 (xd+(n30:Int)))=(Ac.cells { x with k:=17,u:=xd+(n30:Int) }).toArray:=by simp[Ac.cells]
         rw[e9] at h9
         exact h9
       ·have k5z:¬(k5:Int)=4:=by have:=HK.out.2.2.2.2.2.1;omega
        rw[show ((k5:Int)==4)=false by simpa using k5z]
        have h3:Sat W (wc.alloc (.cells #[.int .i64 1,.int .i64 1,.int .i64 1,.int .i64 2,.int .i64 1,.int .i64 3,.int .i64 2,.int .i64 3,.int .i64 1,.int .i64 6,.int .i64 1,.int .i64 1048576,.int .i64 1,.int .i64 1048575] 57)) _:=H2.out.dD (.cells #[.int .i64 1,.int .i64 1,.int .i64 1,.int .i64 2,.int .i64 1,.int .i64 3,.int .i64 2,.int .i64 3,.int .i64 1,.int .i64 6,.int .i64 1,.int .i64 1048576,.int .i64 1,.int .i64 1048575] 57)
        have hbs:=Qz
        obtain⟨f9a,f9b⟩:=aB h3 9 (.int .i64 x.sn) rfl
        obtain⟨aiX,aiY⟩:=aB h3 10 (.int .i64 x.sd) rfl
        have H3:=ah h3
        have HE:=ah e5
        have Em:nn % 7=n7:=HK.out.2.2.2.2.2.2.2.2.symm
        have WI:=qL.out.1.2.2.2.1
        clear e5 h3 f0a f0b f1a f1b f7a f7b t30 t5 t23 b5 b23 t4 ach aci acj
        rcases (show n7=0∨n7=1∨n7=2∨n7=3∨n7=4∨n7=5∨n7=6 by omega) with e7|e7|e7|e7|e7|e7|e7
        ·rw[e7] at Em t7
         have t8:(nn:Int).tmod 7=0:=t7
         have JV:=ah Em
         clear Em t7 e7 WI
         go_wp2
         go_meet
         case rel=>
          refine⟨gU kk nn x,ah rfl,?_⟩
          have e:gU kk nn x={ x with sn:=1,sd:=1 }:=by
           unfold gU;rw[if_neg HE.out,JV.out];rfl
          rw[e]
          have h9:=(H3.out.setCell 9 (.int .i64 1)).setCell 10 (.int .i64 1)
          have e9:(x.cells.toArray.setIfInBounds 9 (.int .i64 1)).setIfInBounds 10 (.int .i64 1)=(Ac.cells { x with sn:=1,sd:=1 }).toArray:=by simp[Ac.cells]
          rw[e9] at h9
          exact h9
        ·rw[e7] at Em t7
         have t8:(nn:Int).tmod 7=1:=t7
         have JV:=ah Em
         clear Em t7 e7 WI
         go_wp2
         go_meet
         case rel=>
          refine⟨gU kk nn x,ah rfl,?_⟩
          have e:gU kk nn x={ x with sn:=1,sd:=2 }:=by
           unfold gU;rw[if_neg HE.out,JV.out];rfl
          rw[e]
          have h9:=(H3.out.setCell 9 (.int .i64 1)).setCell 10 (.int .i64 2)
          have e9:(x.cells.toArray.setIfInBounds 9 (.int .i64 1)).setIfInBounds 10 (.int .i64 2)=(Ac.cells { x with sn:=1,sd:=2 }).toArray:=by simp[Ac.cells]
          rw[e9] at h9
          exact h9
        ·rw[e7] at Em t7
         have t8:(nn:Int).tmod 7=2:=t7
         have JV:=ah Em
         clear Em t7 e7 WI
         go_wp2
         go_meet
         case rel=>
          refine⟨gU kk nn x,ah rfl,?_⟩
          have e:gU kk nn x={ x with sn:=1,sd:=3 }:=by
           unfold gU;rw[if_neg HE.out,JV.out];rfl
          rw[e]
          have h9:=(H3.out.setCell 9 (.int .i64 1)).setCell 10 (.int .i64 3)
          have e9:(x.cells.toArray.setIfInBounds 9 (.int .i64 1)).setIfInBounds 10 (.int .i64 3)=(Ac.cells { x with sn:=1,sd:=3 }).toArray:=by simp[Ac.cells]
          rw[e9] at h9
          exact h9
        ·rw[e7] at Em t7
         have t8:(nn:Int).tmod 7=3:=t7
         have JV:=ah Em
         clear Em t7 e7 WI
         go_wp2
         go_meet
         case rel=>
          refine⟨gU kk nn x,ah rfl,?_⟩
          have e:gU kk nn x={ x with sn:=2,sd:=3 }:=by
           unfold gU;rw[if_neg HE.out,JV.out];rfl
          rw[e]
          have h9:=(H3.out.setCell 9 (.int .i64 2)).setCell 10 (.int .i64 3)
          have e9:(x.cells.toArray.setIfInBounds 9 (.int .i64 2)).setIfInBounds 10 (.int .i64 3)=(Ac.cells { x with sn:=2,sd:=3 }).toArray:=by simp[Ac.cells]
          rw[e9] at h9
          exact h9
        ·rw[e7] at Em t7
         have t8:(nn:Int).tmod 7=4:=t7
         have JV:=ah Em
         clear Em t7 e7 WI
         go_wp2
         go_meet
         case rel=>
          refine⟨gU kk nn x,ah rfl,?_⟩
          have e:gU kk nn x={ x with sn:=1,sd:=6 }:=by
           unfold gU;rw[if_neg HE.out,JV.out];rfl
          rw[e]
          have h9:=(H3.out.setCell 9 (.int .i64 1)).setCell 10 (.int .i64 6)
          have e9:(x.cells.toArray.setIfInBounds 9 (.int .i64 1)).setIfInBounds 10 (.int .i64 6)=(Ac.cells { x with sn:=1,sd:=6 }).toArray:=by simp[Ac.cells]
          rw[e9] at h9
          exact h9
        ·rw[e7] at Em t7
         have t8:(nn:Int).tmod 7=5:=t7
         have JV:=ah Em
         clear Em t7 e7 WI
         go_wp2
         go_meet
         case rel=>
          refine⟨gU kk nn x,ah rfl,?_⟩
          have e:gU kk nn x={ x with sn:=1,sd:=1048576 }:=by
           unfold gU;rw[if_neg HE.out,JV.out];rfl
          rw[e]
          have h9:=(H3.out.setCell 9 (.int .i64 1)).setCell 10 (.int .i64 1048576)
          have e9:(x.cells.toArray.setIfInBounds 9 (.int .i64 1)).setIfInBounds 10 (.int .i64 1048576)=(Ac.cells { x with sn:=1,sd:=1048576 }).toArray:=by simp[Ac.cells]
          rw[e9] at h9
          exact h9
        ·rw[e7] at Em t7
         have t8:(nn:Int).tmod 7=6:=t7
         have JV:=ah Em
         clear Em t7 e7 WI
         go_wp2
         go_meet
         case rel=>
          refine⟨gU kk nn x,ah rfl,?_⟩
          have e:gU kk nn x={ x with sn:=1,sd:=1048575 }:=by
           unfold gU;rw[if_neg HE.out,JV.out];rfl
          rw[e]
          have h9:=(H3.out.setCell 9 (.int .i64 1)).setCell 10 (.int .i64 1048575)
          have e9:(x.cells.toArray.setIfInBounds 9 (.int .i64 1)).setIfInBounds 10 (.int .i64 1048575)=(Ac.cells { x with sn:=1,sd:=1048575 }).toArray:=by simp[Ac.cells]
          rw[e9] at h9
          exact h9
     case rest=>
      as_aux_lemma=>
       obtain⟨y,hy,h3⟩:=hcut
       obtain⟨f1a,f1b⟩:=aB h3 1 (.int .i64 y.d) rfl
       obtain⟨f2a,f2b⟩:=aB h3 2 (.int .i64 y.n) rfl
       have HY:=hy
       have H3:=ah h3
       clear hy h3 t30 t7 t5 b5 acj f0a f0b f7a f7b H2 ach aci
       go_upto_if 83 with (fail)
       go_cut [] (fun wx=>∃y':Ac,Hid (y'=wI kk y)∧Sat W wx (sep (blk q (.cells y'.cells.toArray 67 (0,0))) (sep (aK 67 19 a1 n1 c1 vs) (sep (kn I) A))))
       case first=>
        as_aux_lemma=>
         by_cases e23:kk % 23=22
         ·have aaH:(k23:Int)=22:=by have:=HK.out.2.2.2.2.2.2.1;omega
          rw[show ((k23:Int)==22)=true by rw[aaH];rfl]
          have HE:=ah e23
          obtain⟨w4,hst,h4⟩:=act_wr rfl H3.out 1 y.d y.n 2 0 0 0 0 0 0 0 0 0
          have H4:=ah h4
          clear e23 h4
          go_wp2
          go_meet
          case rel=>
           refine⟨wI kk y,ah rfl,?_⟩
           have e:wI kk y=mX 1 y.d y.n 2 0 0 ⟨0,0⟩:=by unfold wI;rw[if_pos HE.out]
           rw[e]
           exact H4.out
         ·have aaH:¬(k23:Int)=22:=by have:=HK.out.2.2.2.2.2.2.1;omega
          rw[show ((k23:Int)==22)=false by simpa using aaH]
          have HE:=ah e23
          clear e23
          go_wp2
          go_meet
          case rel=>
           refine⟨wI kk y,ah rfl,?_⟩
           have e:wI kk y=y:=by unfold wI;rw[if_neg HE.out]
           rw[e]
           exact H3.out
       case rest=>
        as_aux_lemma=>
         obtain⟨z,hz,h4⟩:=hcut
         have hzA:z=GZ l i:=by rw[aeK.out,hz.out,HY.out,HX.out.1];rfl
         have hld:=act_ld h4
         have h5:Sat W (wc.alloc (.cells #[.int .i64 z.k,.int .i64 z.d,.int .i64 z.n,.int .i64 z.f,.int .i64 z.o,.int .i64 z.p,.int .i64 z.q,.int .i64 z.u,.int .i64 z.m,.int .i64 z.sn,.int .i64 z.sd,.slice z.td.a z.td.n z.td.c,.slice z.tc.a z.tc.n z.tc.c,.slice z.cl.a z.cl.n z.cl.c,.slice z.ea.a z.ea.n z.ea.c,.int .i64 z.fo,.int .i64 z.fn,.slice z.fi.a z.fi.n z.fi.c,.slice z.fk.a z.fk.n z.fk.c] 67)) (sep (aK 67 19 a1 n1 c1 vs) (sep (kn I) A)):=h4.forget.dD _
         have hbx:=dS wc [.int .i64 z.k,.int .i64 z.d,.int .i64 z.n,.int .i64 z.f,.int .i64 z.o,.int .i64 z.p,.int .i64 z.q,.int .i64 z.u,.int .i64 z.m,.int .i64 z.sn,.int .i64 z.sd,.slice z.td.a z.td.n z.td.c,.slice z.tc.a z.tc.n z.tc.c,.slice z.cl.a z.cl.n z.cl.c,.slice z.ea.a z.ea.n z.ea.c,.int .i64 z.fo,.int .i64 z.fn,.slice z.fi.a z.fi.n z.fi.c,.slice z.fk.a z.fk.n z.fk.c] 67
         have hbs:=bs_act z
         have HZ:=ah hzA
         have H5:=ah h5
         have pF:=ah hbx
         have n1b:n1≤14:=Zz
         have ai1:(i:Int)<12:=hg2
         clear hz h4 h5 hbx hzA f1a f1b f2a f2b H3 b23 t23
         go_upto_region 17 with (fail)
         clear f1a f1b
         go_wp2_with (at_builtin;go_loud (refine aJ rfl _ _ 29 rfl 67 19 248 _ Tryz.underlying29 jR rfl rfl H5.out rfl [.int .i64 z.k,.int .i64 z.d,.int .i64 z.n,.int .i64 z.f,.int .i64 z.o,.int .i64 z.p,.int .i64 z.q,.int .i64 z.u,.int .i64 z.m,.int .i64 z.sn,.int .i64 z.sd,.slice z.td.a z.td.n z.td.c,.slice z.tc.a z.tc.n z.tc.c,.slice z.cl.a z.cl.n z.cl.c,.slice z.ea.a z.ea.n z.ea.c,.int .i64 z.fo,.int .i64 z.fn,.slice z.fi.a z.fi.n z.fi.c,.slice z.fk.a z.fk.n z.fk.c] rfl (by simp) (by intro b' hb;cases hb;exact pF.out) z.one (by omega) (by unfold maxLen;omega) ?_))
         intro a' c' w' h6
         have H6:=ah h6
         clear h6 hld H5 pF hbs
         go_wp2
         go_roundw
         case rel=>
          refine⟨i+1,n1+1,a',c',vs++z.cells,by go_num,by omega,rfl,ah ⟨HG.out.2,?_⟩,by have:=jq.out;omega,H6.out⟩
          rw[HV.out.2,HZ.out,List.range_succ,lS,←List.append_assoc,gG]
          simp[bI]
         case measure=>simp[intOf];omega
  ·as_aux_lemma=>
   have hie:i=BM l:=by have:=HV.out.1;omega
   have hsc:¬(3*i<ll∧i<12):=by
    rw[LK.out,hie]
    unfold BM
    omega
   have HF:Hid (n1=(iM l).length∧Sat W wr (sep (aK 67 19 a1 n1 c1 (bI (iM l))) (sep (kn I) A))):=ah (by
    refine⟨?_,?_⟩
    ·rw[jq.out,hie];simp[iM]
    ·have h9:=hS
     rw[HV.out.2,hie] at h9
     exact h9)
   clear hie hS hlt HV jq Zz XJ
   by_cases hge:ll≤3*i
   ·have hg1:¬3*(i:Int)<(ll:Int):=by omega
    clear hge hsc
    go_wp2
    go_ret
    exact⟨a1,n1,c1,rfl,HF.out⟩
   ·have hg1:3*(i:Int)<(ll:Int):=by omega
    have hg2:¬(i:Int)<12:=by omega
    clear hge hsc
    go_wp2
    go_ret
    exact⟨a1,n1,c1,rfl,HF.out⟩
end Go.Proofs.YtgicfogmdfdjmaaGreatDoor

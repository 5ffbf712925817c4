/- Part of a proof. -/
import Derived.Test.YtgicfogmdfdjmaaGreatDoorGTitleOwners32
namespace PA
open Go Go.RowKit
structure Sr (x:Pa):Prop where
 td:∀f∈x.td,f.size≤Go.Proofs.YtgicfogmdfdjmaaGreatDoor.oz
 tc:∀c∈x.tc,c.body.size≤Go.Proofs.YtgicfogmdfdjmaaGreatDoor.oz
 cl:∀c∈x.cl,c.body.size≤Go.Proofs.YtgicfogmdfdjmaaGreatDoor.oz
 fx:x.fx.size≤Go.Proofs.YtgicfogmdfdjmaaGreatDoor.oz
theorem Gg {I:Mem} {a:Option Addr} {n c:Nat} {l:List Ea} (h:(Qb.slice 2).rel I [.slice a n c] l) {i:Nat} {x:Ea} (hx:l[i]?=some x):
 ∃b o,a=some ⟨b,o,none⟩∧∀w',Ext I w'→w'.cell? ⟨b,o+i*2,none⟩=some (.int .i64 x.file)∧w'.cell? ⟨b,o+i*2+1,none⟩=some (.int .i64 x.day):=by
 obtain⟨b,o,cs,rfl,hr,-,hc⟩:=kQ h hx (by omega)
 have e:cs=[.int .i64 x.file,.int .i64 x.day]:=hr
 subst e
 exact⟨b,o,rfl,fun w' he=>⟨hc w' he 0 _ rfl,hc w' he 1 _ rfl⟩⟩
theorem VL {f:Int} {l:List Ea} {j:Nat} {e:Ea} (h:l[j]?=some e):OO f l j=(bQ e.file 0 4095&&(decide (e.file≠f)&&(bQ e.day 0 131072&&!((l.take j).any fun g=>decide (g.file=e.file))))):=by
 unfold OO;rw[h]
theorem Sz {l:List Ea} {k:Nat} {g:Ea} {p:Ea→Bool} (h:l[k]?=some g):(l.take (k+1)).any p=((l.take k).any p||p g):=by
 rw[List.take_add_one,h,List.any_append];simp
end PA
namespace Go.Proofs.YtgicfogmdfdjmaaGreatDoor
open Go.RowKit PA
attribute [local go_sem ↓] bP cO aU
set_option maxRecDepth 100000 in
set_option maxHeartbeats 8000000 in
theorem Du {W w:World} {A:aH} {I:Mem} (z:Ac) (x:Pa) (hA:nT I z x) (hz:Sr x) (h:Sat W w (sep (kn I) A)):
 Calls Tryz.prog 159 #[.agg z.cells.toArray] w fun e w'=>∃J,e=.returned (.bool (zx x))∧Mem.le I J∧Sat W w' (sep (kn J) A):=by
 have h1:=(h.alloc (.cells z.cells.toArray 67)).p1
 obtain⟨B,hB⟩:=aG (w.heap.size)
 obtain⟨w1,hw1⟩:=aG (w.alloc (.cells z.cells.toArray 67))
 rw[←hB,←hw1] at h1
 have HB:=ah (And.intro hB hw1)
 obtain⟨b1,hb1⟩:=aG (bQ z.o 0 11)
 obtain⟨b2,hb2⟩:=aG (bQ z.p 1 4095)
 obtain⟨b3,hb3⟩:=aG (bQ z.q (-1) 4095)
 obtain⟨te,hte⟩:=aG (TW x.td x.tc)
 obtain⟨ne,hne⟩:=aG (z.ea.n)
 obtain⟨rv,gu⟩:=aG (zx x)
 have YM:ne=x.ea.length:=by rw[hne];exact (aT hA.ea).1
 have qQ:rv=if b1=false∨b2=false∨b3=false∨z.q=z.f∨8<ne∨te≠0 then false else Dl z.f x.ea x.ea.length:=by
  rw[gu,hb1,hb2,hb3,hte,YM,hA.o,hA.p,hA.q,hA.f];rfl
 have dN:=ah qQ
 have C1:Hid (∀w',Calls Tryz.prog 130 #[.int .i64 z.o,.int .i64 0,.int .i64 11] w' fun e w''=>e=.returned (.bool b1)∧w'=w''):=ah fun w'=>by rw[hb1];exact dJ _ _ _ w'
 have C2:Hid (∀w',Calls Tryz.prog 130 #[.int .i64 z.p,.int .i64 1,.int .i64 4095] w' fun e w''=>e=.returned (.bool b2)∧w'=w''):=ah fun w'=>by rw[hb2];exact dJ _ _ _ w'
 have C3:Hid (∀w',Calls Tryz.prog 130 #[.int .i64 z.q,.int .i64 (-1),.int .i64 4095] w' fun e w''=>e=.returned (.bool b3)∧w'=w''):=ah fun w'=>by rw[hb3];exact dJ _ _ _ w'
 have C4:Hid (∀w' A',Sat W w' (sep (kn I) A')→Calls Tryz.prog 134 #[.agg #[.slice z.td.a z.td.n z.td.c,.slice z.tc.a z.tc.n z.tc.c]] w' fun e w''=>∃J,e=.returned (.int .i64 te)∧Mem.le I J∧Sat W w'' (sep (kn J) A')):=ah fun w' A' h'=>by
  rw[hte];exact sV z.td.a z.td.n z.td.c z.tc.a z.tc.n z.tc.c x.td x.tc hA.td hA.tc hz.td hz.tc h'
 have Uk:=ah (And.intro hA.ea YM)
 have k3:=(aA h1.p1 3 _ rfl).1
 have k4:=(aA h1.p1 4 _ rfl).1
 have k5:=(aA h1.p1 5 _ rfl).1
 have k6:=(aA h1.p1 6 _ rfl).1
 have k11:=(aA h1.p1 11 _ rfl).1
 have k12:=(aA h1.p1 12 _ rfl).1
 have k14:=(aA h1.p1 14 _ rfl).1
 have ag6:(ne:Int)≤9223372036854775807:=by rw[hne];exact (aT hA.ea).2.2
 have Jd:w1.cell? ⟨B,14,none⟩=some (.slice z.ea.a ne z.ea.c):=by rw[hne];exact k14
 have Y5:=ah hne
 have H1:=ah h1
 rw[←gu]
 obtain⟨Po,iJ⟩:∃P:Ending→World→Prop,P=fun e w'=>∃J,e=.returned (.bool rv)∧Mem.le I J∧Sat W w' (sep (kn J) A):=⟨_,rfl⟩
 rw[←iJ]
 have dX:=ah iJ
 clear hA hz h h1 hB hw1 hb1 hb2 hb3 hte hne gu qQ YM k14 iJ
 go_enter Tryz.func159,Tryz.ntmps159
 go_upto_region 1 with (fail)
 rw[←HB.out.1,←HB.out.2]
 go_cut [40] from 6 (fun v wx=>∃(bb:Bool) (J:Mem),v=.bool bb∧Hid (bb=true↔(b1=false∨b2=false∨b3=false∨z.q=z.f∨8<ne∨te≠0))∧Mem.le I J∧Sat W wx (sep (kn J) (sep (blk B (.cells z.cells.toArray 67 (0,0))) A)))
 case first=>
  as_aux_lemma=>
  cases b1 with
  | false=>
   go_wp2_with fail
   refine (C1.out _).mono ?_
   rintro e w2 ⟨rfl,rfl⟩
   go_wp2
   go_meet
   case rel=>exact⟨true,I,rfl,ah (by simp),Mem.le_refl _,H1.out⟩
  | true=>
   cases b2 with
   | false=>
    go_wp2_with fail
    refine (C1.out _).mono ?_
    rintro e w2 ⟨rfl,rfl⟩
    go_wp2_with fail
    refine (C2.out _).mono ?_
    rintro e w2 ⟨rfl,rfl⟩
    go_wp2
    go_meet
    case rel=>exact⟨true,I,rfl,ah (by simp),Mem.le_refl _,H1.out⟩
   | true=>
    cases b3 with
    | false=>
     go_wp2_with fail
     refine (C1.out _).mono ?_
     rintro e w2 ⟨rfl,rfl⟩
     go_wp2_with fail
     refine (C2.out _).mono ?_
     rintro e w2 ⟨rfl,rfl⟩
     go_wp2_with fail
     refine (C3.out _).mono ?_
     rintro e w2 ⟨rfl,rfl⟩
     go_wp2
     go_meet
     case rel=>exact⟨true,I,rfl,ah (by simp),Mem.le_refl _,H1.out⟩
    | true=>
     by_cases c4:z.q=z.f
     ·have Zf:(z.q==z.f)=true:=by simpa using c4
      have HC4:=ah c4
      clear c4
      go_wp2_with fail
      refine (C1.out _).mono ?_
      rintro e w2 ⟨rfl,rfl⟩
      go_wp2_with fail
      refine (C2.out _).mono ?_
      rintro e w2 ⟨rfl,rfl⟩
      go_wp2_with fail
      refine (C3.out _).mono ?_
      rintro e w2 ⟨rfl,rfl⟩
      go_wp2
      go_meet
      case rel=>exact⟨true,I,rfl,ah (by simp[HC4.out]),Mem.le_refl _,H1.out⟩
     ·have Zf:(z.q==z.f)=false:=by simpa using c4
      have HC4:=ah c4
      clear c4
      by_cases c5:8<ne
      ·have c5':(8:Int)<(ne:Int):=by omega
       have HC5:=ah c5
       clear c5
       go_wp2_with fail
       refine (C1.out _).mono ?_
       rintro e w2 ⟨rfl,rfl⟩
       go_wp2_with fail
       refine (C2.out _).mono ?_
       rintro e w2 ⟨rfl,rfl⟩
       go_wp2_with fail
       refine (C3.out _).mono ?_
       rintro e w2 ⟨rfl,rfl⟩
       go_wp2
       go_meet
       case rel=>exact⟨true,I,rfl,ah (by simp[HC5.out]),Mem.le_refl _,H1.out⟩
      ·have c5':¬(8:Int)<(ne:Int):=by omega
       have HC5:=ah c5
       clear c5
       go_wp2_with fail
       refine (C1.out _).mono ?_
       rintro e w2 ⟨rfl,rfl⟩
       go_wp2_with fail
       refine (C2.out _).mono ?_
       rintro e w2 ⟨rfl,rfl⟩
       go_wp2_with fail
       refine (C3.out _).mono ?_
       rintro e w2 ⟨rfl,rfl⟩
       go_wp2_with fail
       refine (C4.out _ _ H1.out).mono ?_
       rintro e w2 ⟨J,rfl,hle,h2⟩
       have H2:=ah (And.intro hle h2)
       clear hle h2 H1 k3 k4 k5 k6 k11 k12 Jd
       go_wp2
       go_meet
       case rel=>exact⟨_,J,rfl,ah (by simp[HC4.out,HC5.out];intro hh;exact absurd hh (Int.not_lt.2 c5')),H2.out.1,H2.out.2⟩
 case rest=>
  as_aux_lemma=>
  obtain⟨bb,J,rfl,sD,hle,h2⟩:=hcut
  have H2:=ah h2
  have iE:=ah hle
  clear k3 k4 k5 k6 k11 k12 Jd h2 hle H1 C1 C2 C3 C4
  cases bb with
  | true=>
   have HF:Hid (rv=false):=ah (by rw[dN.out,if_pos (sD.out.1 (by first|rfl|trivial))])
   have HF2:=ah H2.out.p1.drop
   clear H2
   go_wp2
   rw[dX.out]
   exact⟨J,(by rw[HF.out];try rfl),iE.out,HF2.out⟩
  | false=>
   have aas:Hid (rv=Dl z.f x.ea ne):=ah (by
    have hn:¬(b1=false∨b2=false∨b3=false∨z.q=z.f∨8<ne∨te≠0):=fun e=>by have:=sD.out.2 e;simp at this
    rw[dN.out,if_neg hn,←Uk.out.2])
   have ne8:(ne:Int)≤8:=by
    have hn:¬8<ne:=fun e=>by have:=sD.out.2 (.inr (.inr (.inr (.inr (.inl e)))));simp at this
    omega
   clear dN sD
   go_wp2_with fail
   go_loopw [3] (fun iv wr=>∃(i:Nat),iv=.int .i64 i∧i≤ne∧Hid (Dl z.f x.ea i=true)∧Sat W wr (sep (kn J) (sep (blk B (.cells z.cells.toArray 67 (0,0))) A))) (fun iv _=>ne-(intOf iv).toNat)
   case atStart=>exact⟨0,rfl,by omega,ah rfl,H2.out⟩
   case round=>
    obtain⟨i,rfl,hi,HT,hS⟩:=hrel
    have Jd:wr.cell? ⟨B,14,none⟩=some (.slice z.ea.a ne z.ea.c):=by rw[Y5.out];exact (aA hS.p1 14 _ rfl).1
    by_cases hlt:i<ne
    ·have hltz:(i:Int)<(ne:Int):=by omega
     obtain⟨ev,hev⟩:∃ev,x.ea[i]?=some ev:=⟨_,List.getElem?_eq_getElem (by have:=Uk.out.2;omega)⟩
     obtain⟨b,o,hab,hcell⟩:=Gg Uk.out.1 hev
     rw[hab] at Jd
     obtain⟨j0,j1⟩:=hcell wr (fun i o hb=>hS.ext i o (iE.out i o hb))
     have ne':wr.cell? ⟨B,3,none⟩=some (.int .i64 z.f):=(aA hS.p1 3 _ rfl).1
     have he0:=hS.alloc (.cells #[.int .i64 ev.file,.int .i64 ev.day] 116)
     obtain⟨G,hG⟩:=aG (wr.heap.size)
     rw[←hG] at he0
     obtain⟨we,hwe⟩:=aG (wr.alloc (.cells #[.int .i64 ev.file,.int .i64 ev.day] 116))
     have he2:Sat W we (sep (blk G (.cells #[.int .i64 ev.file,.int .i64 ev.day] 116)) (sep (kn J) (sep (blk B (.cells z.cells.toArray 67 (0,0))) A))):=by rw[hwe];exact he0
     have HE:=ah (And.intro hG hwe)
     have H3:=ah he2
     have HBAD:Hid (OO z.f x.ea i=false→rv=false):=ah fun e=>by rw[aas.out];exact RN hlt e
     have HAT:=ah (VL (f:=z.f) hev)
     have HI:=ah (And.intro hlt hev)
     obtain⟨b1,hb1⟩:=aG (bQ ev.file 0 4095)
     obtain⟨b2,hb2⟩:=aG (bQ ev.day 0 131072)
     have C1:Hid (∀w',Calls Tryz.prog 130 #[.int .i64 ev.file,.int .i64 0,.int .i64 4095] w' fun e w''=>e=.returned (.bool b1)∧w'=w''):=ah fun w'=>by rw[hb1];exact dJ _ _ _ w'
     have C2:Hid (∀w',Calls Tryz.prog 130 #[.int .i64 ev.day,.int .i64 0,.int .i64 131072] w' fun e w''=>e=.returned (.bool b2)∧w'=w''):=ah fun w'=>by rw[hb2];exact dJ _ _ _ w'
     rw[←hb1,←hb2] at HAT
     clear hG hwe he0 he2 hlt hev hb1 hb2 hcell hS H2 hi
     go_upto_region 7 with (fail)
     simp only[←HE.out.1]
     rw[←HE.out.2]
     have e0:we.cell? ⟨G,0,none⟩=some (.int .i64 ev.file):=by rw[H3.out.cell 0];rfl
     have e1:we.cell? ⟨G,1,none⟩=some (.int .i64 ev.day):=by rw[H3.out.cell 1];rfl
     have f3:we.cell? ⟨B,3,none⟩=some (.int .i64 z.f):=(aA H3.out.p2 3 _ rfl).1
     have Ci:=ah H3.out.drop.p1.drop
     clear ne' j0 j1 Jd
     cases b1 with
     | false=>
      have HF:Hid (rv=false):=ah (HBAD.out (by rw[HAT.out];rfl))
      go_wp2_with fail
      refine (C1.out _).mono ?_
      rintro e w2 ⟨rfl,rfl⟩
      clear e0 e1 f3
      go_wp2
      rw[dX.out]
      exact⟨J,(by rw[HF.out];try rfl),iE.out,Ci.out⟩
     | true=>
      by_cases c4:ev.file=z.f
      ·have Zf:(ev.file==z.f)=true:=by simpa using c4
       have HF:Hid (rv=false):=ah (HBAD.out (by rw[HAT.out];simp[c4]))
       clear c4
       go_wp2_with fail
       refine (C1.out _).mono ?_
       rintro e w2 ⟨rfl,rfl⟩
       go_wp2
       rw[dX.out]
       exact⟨J,(by rw[HF.out];try rfl),iE.out,Ci.out⟩
      ·have Zf:(ev.file==z.f)=false:=by simpa using c4
       have HC4:=ah c4
       clear c4
       cases b2 with
       | false=>
        have HF:Hid (rv=false):=ah (HBAD.out (by rw[HAT.out];simp))
        go_wp2_with fail
        refine (C1.out _).mono ?_
        rintro e w2 ⟨rfl,rfl⟩
        go_wp2_with fail
        refine (C2.out _).mono ?_
        rintro e w2 ⟨rfl,rfl⟩
        clear e0 e1 f3
        go_wp2
        rw[dX.out]
        exact⟨J,(by rw[HF.out];try rfl),iE.out,Ci.out⟩
       | true=>
        go_wp2_with fail
        refine (C1.out _).mono ?_
        rintro e w2 ⟨rfl,rfl⟩
        go_wp2_with fail
        refine (C2.out _).mono ?_
        rintro e w2 ⟨rfl,rfl⟩
        clear e0 e1 f3 C1 C2 Zf
        go_wp2_with fail
        go_loopw [5] (fun kv wr=>∃(k:Nat),kv=.int .i64 k∧k≤i∧Hid (((x.ea.take k).any fun g=>decide (g.file=ev.file))=false)∧Sat W wr (sep (blk G (.cells #[.int .i64 ev.file,.int .i64 ev.day] 116)) (sep (kn J) (sep (blk B (.cells z.cells.toArray 67 (0,0))) A)))) (fun kv _=>i-(intOf kv).toNat)
        case atStart=>exact⟨0,rfl,by omega,ah rfl,H3.out⟩
        case round=>
         obtain⟨k,rfl,hk,HK,hS⟩:=hrel
         by_cases hki:k<i
         ·have hkz:(k:Int)<(i:Int):=by omega
          have hkn:(k:Int)<(ne:Int):=by omega
          have hk0:(0:Int)≤(k:Int):=by omega
          obtain⟨gv,hgv⟩:∃gv,x.ea[k]?=some gv:=⟨_,List.getElem?_eq_getElem (by have:=Uk.out.2;have:=HI.out.1;omega)⟩
          obtain⟨b',o',hab',hcell⟩:=Gg Uk.out.1 hgv
          rw[hab] at hab'
          cases hab'
          have hd:=hS.drew
          obtain⟨j0,j1⟩:=hcell wr.drew (fun i o hb=>hd.p1.ext i o (iE.out i o hb))
          have e0:wr.drew.cell? ⟨G,0,none⟩=some (.int .i64 ev.file):=by rw[hd.cell 0];rfl
          have Jd:wr.drew.cell? ⟨B,14,none⟩=some (.slice (some ⟨b,o,none⟩) ne z.ea.c):=by rw[Y5.out,←hab];exact (aA hd.p2 14 _ rfl).1
          have HD:=ah hd
          have GL:=ah (And.intro hki hgv)
          clear hS hd hgv hki hk hcell H3
          by_cases c5:gv.file=ev.file
          ·have c5':(gv.file==ev.file)=true:=by simpa using c5
           have HF:Hid (rv=false):=ah (HBAD.out (by
            have:((x.ea.take i).any fun g=>decide (g.file=ev.file))=true:=List.any_eq_true.2 ⟨gv,List.mem_iff_getElem?.2 ⟨k,by rw[List.getElem?_take_of_lt GL.out.1];exact GL.out.2⟩,by simpa using c5⟩
            rw[HAT.out,this];simp))
           have HF2:=ah HD.out.drop.p1.drop
           clear c5
           go_upto_region 12 with (fail)
           refine aB rfl (fun _=>True) [(0,.p),(1,.t),(2,.p),(3,.p),(4,.p),(5,.t),(6,.p),(7,.t),(8,.p)] (by kernel_rfl) ?_
           have hS0:True:=trivial
           (repeat ((first|(refine eX (v:=?_) rfl rfl (fun w'=>?_) ?_;rotate_left;(go_simp;with_reducible rfl))|(refine eY (v:=?_) rfl rfl hS0 (fun w' hS=>?_) ?_;rotate_left;((try dsimp only at hS);go_simp;with_reducible rfl))|(refine fA (v:=?_) rfl rfl ?_ ?_;rotate_left;(go_simp;with_reducible rfl))|(refine bH rfl rfl ?_)|(refine bI rfl rfl hS0 ?_)|(refine bJ rfl rfl ?_));simp only[Act.put,lsA,lsB,bK]))
           refine bM ?_
           clear j0 j1 e0 Jd
           go_wp2
           rw[dX.out]
           exact⟨J,(by rw[HF.out];try rfl),iE.out,HF2.out⟩
          ·have c5':(gv.file==ev.file)=false:=by simpa using c5
           have HC5:=ah c5
           clear c5
           go_upto_region 12 with (fail)
           refine aB rfl (fun _=>True) [(0,.p),(1,.t),(2,.p),(3,.p),(4,.p),(5,.t),(6,.p),(7,.t),(8,.p)] (by kernel_rfl) ?_
           have hS0:True:=trivial
           (repeat ((first|(refine eX (v:=?_) rfl rfl (fun w'=>?_) ?_;rotate_left;(go_simp;with_reducible rfl))|(refine eY (v:=?_) rfl rfl hS0 (fun w' hS=>?_) ?_;rotate_left;((try dsimp only at hS);go_simp;with_reducible rfl))|(refine fA (v:=?_) rfl rfl ?_ ?_;rotate_left;(go_simp;with_reducible rfl))|(refine bH rfl rfl ?_)|(refine bI rfl rfl hS0 ?_)|(refine bJ rfl rfl ?_));simp only[Act.put,lsA,lsB,bK]))
           refine bM ?_
           clear j0 j1 e0 Jd
           go_wp2
           go_roundw
           case rel=>exact⟨k+1,by go_num,by have:=GL.out.1;omega,ah (by rw[Sz GL.out.2,HK.out];simpa using HC5.out),HD.out⟩
           case measure=>simp[intOf];have:=GL.out.1;omega
         ·obtain rfl:k=i:=by omega
          have HT2:Hid (Dl z.f x.ea (k+1)=true):=ah (by
           rw[OQ,HT.out,HAT.out,HK.out];simpa using HC4.out)
          have HF2:=ah hS.drop
          have HI2:=ah HI.out.1
          clear hS H3 HI Ci hki hk
          go_wp2
          go_roundw
          case rel=>exact⟨k+1,by go_num,by have:=HI2.out;omega,HT2,HF2.out⟩
          case measure=>simp[intOf];have:=HI2.out;omega
    ·obtain rfl:i=ne:=by omega
     have HF:Hid (rv=true):=ah (by rw[aas.out];exact HT.out)
     have HF2:=ah hS.p1.drop
     clear hS H2
     go_wp2
     rw[dX.out]
     exact⟨J,(by rw[HF.out];try rfl),iE.out,HF2.out⟩
end Go.Proofs.YtgicfogmdfdjmaaGreatDoor

/- Part of a proof. -/
import Derived.Test.YthfmaclnccdcbaaGreatDoorGActsOrder18
namespace Go.Proofs.YthfmaclnccdcbaaGreatDoor
open Go.RowKit PA
attribute [local go_sem ↓] iq
theorem bsFm0 (w:World):(Wi 0 #[]).run Tryz.prog w=.ok (.slice (some ⟨w.heap.size,0,none⟩) 0 0) (w.alloc (.cells #[] 34)):=by
 obtain⟨i,h1,h2,h3,h4⟩:=info_parts iF;show (Instr.buildSlice 27 0 #[]).run Tryz.prog w=_;simp[Instr.buildSlice,run_underlying Tryz.underlying27,sizeOf,typeInfo,h1,newRow,Instr.fill];have e:∀g:Nat→Value,(Array.range 0).map g=#[]:=fun g=>Array.eq_empty_of_size_eq_zero (by simp)
 rw[e]
attribute [local go_sem] bsFm0 BL
def DL:Nat→List Nat:=fun x=>if x=6 then [0,5] else if x=12 then [6,11] else if x=13 then [12] else []
set_option maxRecDepth 100000 in
set_option maxHeartbeats 16000000 in
theorem IB {W:World} {I:Mem} (a:Option Addr) (n c:Nat) (l:List Cl) (hv:(kM.slice 5).rel I [.slice a n c] l) (hok:pR l=0):
 ∀(k:Nat),k<l.length→∀(w:World) (A:aC) (J:Mem),Mem.le I J→Sat W w (sep (kn J) A) →
  Calls Tryz.prog 221 #[.slice a n c,.int .i64 (k:Nat)] w fun e w'=>∃(b:Option Addr) (m d:Nat) (J':Mem),e=.returned (.tuple #[.slice b m d,.bool (fJ l k).isSome])∧Mem.le J J'∧(∀y,fJ l k=some y→m=y.length∧(rF.slice 4).rel J' [.slice b m d] y)∧Sat W w' (sep (kn J') A):=by
 intro k
 induction k using Nat.strongRecOn with
 | ind k ih=>
 intro hk w A J hle h;obtain⟨x,hx⟩:∃x,l[k]?=some x:=⟨_,List.getElem?_eq_getElem hk⟩
 have hn:=(aI hv).1;obtain⟨b,o,ra,rc,p,q,x1,n1,c1,x2,n2,c2,rfl,hrr,hrb,hcell⟩:=uI hv hx;obtain⟨hrl,MG,hbe⟩:x.refs.length≤8∧jS x.refs k=true∧jV x.body=0:=by
  obtain⟨hk',e⟩:=List.getElem?_eq_some_iff.1 hx;have:=(sV hok).2 k hk'
  rwa [e] at this
 have hbs:=lq hbe;have Zd:=ah (IE x.body w A J p q x1 n1 c1 x2 n2 c2 (rF.mono hle hrb) (by unfold mg;omega) h);obtain⟨k0,k1,k2,k3,k4⟩:=hcell w (fun i o hb=>h.ext i o (hle i o hb));obtain⟨tp,htp⟩:=aB (x.body.dL);obtain⟨nr,hnr⟩:=aB (x.refs.length);obtain⟨av,hav⟩:=aB (fJ l k);have hae:=AL hx;have EH:Hid (av=rX (fun r=>if r<k then fJ l r else none) x):=ah (by rw[hav,hae]);have htl:tp.length≤96:=by rw[htp];have:=Fm.yj x.body;omega
 have hts:∀f∈tp,f.size≤96:=fun f hf=>by rw[htp] at hf;have:=zn x.body f hf;omega
 rw[←htp] at Zd;rw[←hav];rw[←hnr] at hrr k0 hrl;have HX:=ah (And.intro htp (And.intro hnr (And.intro MG (And.intro htl hts))));have HC:=ah (fun w' (he:Ext J w')=>hcell w' (fun i o hb=>he i o (hle i o hb)));have HRR:=ah (And.intro hrr hle);have HIH:=ah ih;have mD:=ah (And.intro hok hk);have hkz:(k:Int)<(n:Int):=by omega
 have hn63:=(aI hv).2.2;have ad5:(nr:Int)≤8:=by omega
 simp only[←hnr] at HC;clear hv hok ih hk hle h hx hn hrr hrb hcell hrl MG hbe hbs htp hnr hav hae htl hts
 go_enter Tryz.func221,Tryz.ntmps221
 go_wp2_with fail
 refine Zd.out.mono ?_;rintro e w1 ⟨ta,tn,tc,J1,rfl,htn,hle1,htr,h1⟩;clear k0 k1 k2 k3 k4;obtain⟨k0,k1,k2,k3,k4⟩:=HC.out w1 (fun i o hb=>h1.ext i o (hle1 i o hb));have HT:=ah (And.intro htn (And.intro hle1 htr));have H1:=ah h1;have aed:(tn:Int)≤96:=by have:=HX.out.2.2.2.1;omega
 clear h1 htn hle1 htr Zd
 by_cases hr0:nr=0
 ·subst hr0
  have hrn:x.refs=[]:=List.eq_nil_of_length_eq_zero HX.out.2.1.symm;have HA:Hid (av=if tp.length≤64 then some tp else none):=ah (by rw[EH.out];unfold rX;rw[if_pos hrn,←HX.out.1]);clear hrn
  go_wp2
  have ht:=HT.out;refine bodyPost_ret (v:=.tuple #[.slice ta tn tc,.bool (decide ((tn:Int)≤64))]) (by simp[results,Tryz.results221,go_sem]) rfl ?_;refine⟨ta,tn,tc,J1,?_,ht.2.1,fun y hy=>?_,H1.out⟩
  ·have:av.isSome=decide ((tn:Int)≤64):=by
    rw[HA.out,←ht.1]
    by_cases h64:tn≤64
    ·rw[if_pos h64,decide_eq_true (by omega)];rfl
    ·rw[if_neg h64,decide_eq_false (by omega)];rfl
   rw[this]
  ·rw[HA.out] at hy
   split at hy
   ·cases hy;exact⟨ht.1,ht.2.2⟩
   ·cases hy
 ·have ZC:((nr:Int)==0)=false:=by simp;omega
  have HA:Hid (av=dX (fun r=>if r<k then fJ l r else none) tp (x.refs.drop 0) []):=ah (by
   rw[EH.out];unfold rX;rw[if_neg (fun e=>hr0 (by rw[HX.out.2.1,e];rfl)),←HX.out.1];rfl)
  clear hr0
  go_upto_region 4 with (fail)
  clear k0 k1 k2 k3 k4 ZC
  go_wp2_with fail
  go_loopw [7,8] (fun ov iv wr=>∃(j m d:Nat) (bO:Option Addr) (vs:List Value) (J2:Mem) (ol:List Fm),ov=.slice bO m d∧iv=.int .i64 j∧j≤nr∧m≤64∧Hid (m=ol.length∧av=dX (fun r=>if r<k then fJ l r else none) tp (x.refs.drop j) ol∧Mem.le J1 J2∧(rF.rows 4).rel J2 vs ol)∧Sat W wr (sep (aT 34 4 bO m d vs) (sep (kn J2) A))) (fun _ iv _=>nr-(intOf iv).toNat)
  case atStart=>exact⟨0,0,0,none,[],J1,[],rfl,rfl,by omega,by omega,ah ⟨rfl,HA.out,Mem.le_refl _,kV _ _ _⟩,H1.out.gq 34 4⟩
  case round=>
   obtain⟨j,m,d,bO,vs,J2,ol,rfl,rfl,hj,hm,HV,hS⟩:=hrel;have vG:Mem.le J J2:=eG HT.out.2.1 HV.out.2.2.1;obtain⟨k0,-,-,-,-⟩:=HC.out wr (fun i o hb=>hS.p1.ext i o (vG i o hb))
   by_cases hlt:j<nr
   ·as_aux_lemma=>
    have hltz:(j:Int)<(nr:Int):=by omega
    obtain⟨r,hr⟩:∃r,x.refs[j]?=some r:=⟨_,List.getElem?_eq_getElem (by have:=HX.out.2.1;omega)⟩
    obtain⟨rb,ro,rfl,hrc⟩:=nO HRR.out.1 hr;have hrk:=zf HX.out.2.2.1 r (List.mem_of_getElem? hr);obtain⟨rn,rfl⟩:∃rn:Nat,r=(rn:Int):=⟨r.toNat,by omega⟩
    have ZG:rn<k:=by omega
    have c0:=hrc wr (fun i o hb=>hS.p1.ext i o (eG HRR.out.2 vG i o hb));have hrec:=HIH.out rn ZG (by have:=mD.out.2;omega) wr _ J2 (eG HRR.out.2 vG) hS.p1;have hat:=BA (of:=fun r=>if r<k then fJ l r else none) (own:=tp) (out:=ol) hr;simp only[Int.toNat_natCast,if_pos ZG] at hat;obtain⟨al,hal⟩:=aB (fJ l rn);have hsz:∀y,al=some y→(∀f∈y,f.size≤96)∧y.length≤64:=fun y e=>⟨Fv mD.out.1 (by rw[←hal];exact e),xC (by rw[←hal];exact e)⟩
    rw[←hal] at hrec hat;have aaP:=ah hrec;have HAT:=ah (HV.out.2.1.trans hat);have Je:=ah hsz;have HJ:=ah (And.intro hlt (And.intro hm vG));have hmz:(m:Int)≤64:=by omega
    clear hrc hrk ZG hr hrec hat hal hsz hlt hm hj hS vG H1 HA
    go_upto_region 8 with (fail)
    go_wp2_with fail
    refine aaP.out.mono ?_;rintro e w2 ⟨xb,xm,xd,J3,rfl,hle3,hres,h2⟩;clear k0 c0 aaP;cases al with
    | none=>
     have HF:Hid (av=none):=ah (by rw[HAT.out]);have H2:=ah h2.p1.dW;have HL:=ah (eG HJ.out.2.2 hle3);clear h2 hres hle3
     go_wp2
     refine bodyPost_ret (v:=.tuple #[.slice none 0 0,.bool false]) (by simp[results,Tryz.results221,go_sem]) rfl ?_;exact⟨none,0,0,J3,by rw[HF.out];rfl,HL.out,fun y hy=>(by rw[HF.out] at hy;cases hy),H2.out⟩
    | some xl=>
     obtain⟨hxm,hxr⟩:=hres xl rfl;obtain⟨hxs,qQ⟩:=Je.out xl rfl;obtain⟨mt,hmt⟩:=aB (xm*tn);have emt:(xm:Int)*(tn:Int)=(mt:Int):=by rw[hmt];push_cast;rfl
     have ZA:mt≤6144:=by
      rw[hmt];exact Nat.le_trans (Nat.mul_le_mul (show xm≤64 by omega) (show tn≤96 by omega)) (by decide)
     have H2:=ah h2.p1;have Jf:=ah (And.intro hxm (And.intro hxr (And.intro hxs (And.intro qQ (And.intro (eG HJ.out.2.2 hle3) hle3)))));have NU:mt=xl.length*tp.length:=by rw[hmt,hxm,HT.out.1]
     have GR:=HAT.out;simp only at GR;rw[←NU,←HV.out.1] at GR;have HAX:=ah GR;have HMT:=ah (And.intro hmt NU);have ad1:(mt:Int)≤6144:=by omega
     have hxz:(xm:Int)≤64:=by omega
     clear h2 hres hle3 hxm hxr hxs qQ hmt NU ZA GR HAT Je
     by_cases h64:64<m+mt
     ·have TW:(64:Int)<(m:Int)+(mt:Int):=by omega
      have HF:Hid (av=none):=ah (by rw[HAX.out,if_pos h64]);have HF2:=ah H2.out.dW;clear h64 H2
      go_wp2
      refine bodyPost_ret (v:=.tuple #[.slice none 0 0,.bool false]) (by simp[results,Tryz.results221,go_sem]) rfl ?_;exact⟨none,0,0,J3,by rw[HF.out];rfl,Jf.out.2.2.2.2.1,fun y hy=>(by rw[HF.out] at hy;cases hy),HF2.out⟩
     ·have TW:¬(64:Int)<(m:Int)+(mt:Int):=by omega
      have HAY:Hid (av=match dZ xl tp with|none=>none|some y=>dX (fun r=>if r<k then fJ l r else none) tp (x.refs.drop (j+1)) (ol++y)):=ah (by rw[HAX.out,if_neg h64];rfl);have Qj:=ah h64;clear h64
      go_upto_region 11 with (fail)
      clear TW emt
      go_wp2_with fail
      go_loopw [7,11] (fun ov iv wr=>∃(ia m2 d2:Nat) (b2:Option Addr) (vs2:List Value) (J4:Mem) (y:List Fm),ov=.slice b2 m2 d2∧iv=.int .i64 ia∧ia≤xm∧Hid (m2=(ol++y).length∧dZ (xl.take ia) tp=some y∧Mem.le J3 J4∧(rF.rows 4).rel J4 vs2 (ol++y))∧Sat W wr (sep (aT 34 4 b2 m2 d2 vs2) (sep (kn J4) A))) (fun _ iv _=>xm-(intOf iv).toNat)
      case atStart=>exact⟨0,m,d,bO,vs,J3,[],rfl,rfl,by omega,ah ⟨by rw[List.append_nil];exact HV.out.1,rfl,Mem.le_refl _,by rw[List.append_nil];exact (rF.rows 4).mono Jf.out.2.2.2.2.2 HV.out.2.2.2⟩,H2.out⟩
      case round=>
       obtain⟨ia,m2,d2,b2,vs2,J4,y,rfl,rfl,hia,lW,hS2⟩:=hrel
       by_cases hlt2:ia<xm
       ·as_aux_lemma=>
        have Ud:(ia:Int)<(xm:Int):=by omega
        obtain⟨fa,hfa⟩:∃fa,xl[ia]?=some fa:=⟨_,List.getElem?_eq_getElem (by have:=Jf.out.1;omega)⟩
        obtain⟨ba,oa,pA,qA,y1,e1,z1,y2,e2,z2,rfl,hra,hca⟩:=gV Jf.out.2.1 hfa;have Ky:y.length=ia*tp.length:=by
         have:=kP lW.out.2.1;rw[List.length_take,Nat.min_eq_left (by have:=Jf.out.1;omega)] at this;exact this
        have hyb:y.length+tp.length≤mt:=by
         rw[Ky,HMT.out.2];have h1:ia+1≤xl.length:=by have:=Jf.out.1;omega
         have h2:=Nat.mul_le_mul_right tp.length h1;rw[Nat.add_mul,Nat.one_mul] at h2;exact h2
        have HYB:=ah hyb;have OZ:=ah (And.intro hfa (And.intro (Jf.out.2.2.1 fa (List.mem_of_getElem? hfa)) hlt2));have VJ:=ah (And.intro hra hca);have HS2:=ah hS2;clear Ky hyb hfa hra hca hS2 hlt2 hia H2
        go_upto_region 14 with (fail)
        go_wp2_with fail
        go_loopw [7,12] (fun ov iv wr=>∃(ib m3 d3:Nat) (b3:Option Addr) (vs3:List Value) (J5:Mem),ov=.slice b3 m3 d3∧iv=.int .i64 ib∧ib≤tn∧Hid (m3=(ol++y++(tp.take ib).map (eP fa)).length∧(∀(i:Nat) (fb:Fm),i<ib→tp[i]?=some fb→jV (eP fa fb)=0)∧Mem.le J4 J5∧(rF.rows 4).rel J5 vs3 (ol++y++(tp.take ib).map (eP fa)))∧Sat W wr (sep (aT 34 4 b3 m3 d3 vs3) (sep (kn J5) A))) (fun _ iv _=>tn-(intOf iv).toNat)
        case atStart=>exact⟨0,m2,d2,b2,vs2,J4,rfl,rfl,by omega,ah ⟨by simp only[List.take_zero,List.map_nil,List.append_nil];exact lW.out.1,fun i fb hi _=>absurd hi (Nat.not_lt_zero _),Mem.le_refl _,by simp only[List.take_zero,List.map_nil,List.append_nil];exact lW.out.2.2.2⟩,HS2.out⟩
        case round=>
         obtain⟨ib,m3,d3,b3,vs3,J5,rfl,rfl,hib,rP,hS3⟩:=hrel
         by_cases hlt3:ib<tn
         ·as_aux_lemma=>
          have abL:(ib:Int)<(tn:Int):=by omega
          obtain⟨fb,hfb⟩:∃fb,tp[ib]?=some fb:=⟨_,List.getElem?_eq_getElem (by have:=HT.out.1;omega)⟩
          obtain⟨bb,ob,pB,qB,v1,f1,g1,v2,f2,g2,rfl,hrb,hcb⟩:=gV HT.out.2.2 hfb;have PG:Mem.le J3 J5:=eG lW.out.2.2.1 rP.out.2.2.1;have Dc:Mem.le J1 J5:=eG (eG HV.out.2.2.1 Jf.out.2.2.2.2.2) PG;have XA:=ah (fun w' (he:Ext J5 w')=>VJ.out.2 w' (fun i o hb=>he i o (PG i o hb)));have HCB:=ah (fun w' (he:Ext J5 w')=>hcb w' (fun i o hb=>he i o (Dc i o hb)));have SH:=ah (And.intro (rF.mono PG VJ.out.1) (rF.mono Dc hrb));have MB:=ah (And.intro hfb (And.intro (HX.out.2.2.2.2 fb (List.mem_of_getElem? hfb)) hlt3));have HM3:Hid (m3+1≤64):=ah (by
           have h1:=rP.out.1;rw[dF,dF,List.length_map,List.length_take,Nat.min_eq_left (by have:=HT.out.1;omega)] at h1;have:=HYB.out;have:=HT.out.1;have:=Qj.out;have:=HV.out.1;omega)
          have hd:=hS3.drew;have HD:=ah hd;have O6:=ah hS3;clear hrb hcb PG Dc hfb hS3 hlt3 hib hd HS2
          go_upto_region 17 with (fail)
          go_cut [13] from 73 to 99 (fun v wx=>∃(g:Nat) (pa:Option Addr) (pm pd:Nat) (J6:Mem),v=.pointer (some ⟨g,0,none⟩)∧Mem.le J5 J6∧rF.rel J6 [.int .i64 4,.int .i64 0,.slice none 0 0,.slice pa pm pd] (eP fa fb)∧Sat W wx (sep (blk g (.cells #[.int .i64 4,.int .i64 0,.slice none 0 0,.slice pa pm pd] 34 (0,0))) (sep (kn J6) (sep (aT 34 4 b3 m3 d3 vs3) A))))
          case first=>
           as_aux_lemma=>
           obtain⟨a0,a1,a2,a3⟩:=XA.out wr.drew HD.out.p1.ext;obtain⟨b0,b1,b4,b5⟩:=HCB.out wr.drew HD.out.p1.ext;have hS0:(wr.drew.cell? ⟨ba,oa+ia*4,none⟩=some (.int .i64 pA)∧wr.drew.cell? ⟨ba,oa+ia*4+1,none⟩=some (.int .i64 qA)∧wr.drew.cell? ⟨ba,oa+ia*4+2,none⟩=some (.slice y1 e1 z1)∧wr.drew.cell? ⟨ba,oa+ia*4+3,none⟩=some (.slice y2 e2 z2))∧(wr.drew.cell? ⟨bb,ob+ib*4,none⟩=some (.int .i64 pB)∧wr.drew.cell? ⟨bb,ob+ib*4+1,none⟩=some (.int .i64 qB)∧wr.drew.cell? ⟨bb,ob+ib*4+2,none⟩=some (.slice v1 f1 g1)∧wr.drew.cell? ⟨bb,ob+ib*4+3,none⟩=some (.slice v2 f2 g2)):=⟨⟨a0,a1,a2,a3⟩,b0,b1,b4,b5⟩
           clear a0 a1 a2 a3 b0 b1 b4 b5;refine eY rfl (fun w'=>(w'.cell? ⟨ba,oa+ia*4,none⟩=some (.int .i64 pA)∧w'.cell? ⟨ba,oa+ia*4+1,none⟩=some (.int .i64 qA)∧w'.cell? ⟨ba,oa+ia*4+2,none⟩=some (.slice y1 e1 z1)∧w'.cell? ⟨ba,oa+ia*4+3,none⟩=some (.slice y2 e2 z2))∧(w'.cell? ⟨bb,ob+ib*4,none⟩=some (.int .i64 pB)∧w'.cell? ⟨bb,ob+ib*4+1,none⟩=some (.int .i64 qB)∧w'.cell? ⟨bb,ob+ib*4+2,none⟩=some (.slice v1 f1 g1)∧w'.cell? ⟨bb,ob+ib*4+3,none⟩=some (.slice v2 f2 g2))) [.one 1 .p,.one 2 .p,.one 3 .p,.one 4 .s,.one 7 .p,.one 8 .p,.one 9 .p,.one 10 .s,.grp true [(0,[]),(5,[]),(6,[]),(11,[]),(12,[]),(13,[]),(14,[])],.one 15 (.e false)] (by kernel_rfl) ?_;refine lG ?_;refine Bj (n:=7) rfl ?_;have hT0:Sat W wr.drew (pairT 34 34 J5 fa.parts fb.parts (sep (aT 34 4 b3 m3 d3 vs3) A) (fun _=>none)):=
            fA.2 ⟨⟨J5,[],none,0,0⟩,⟨Mem.le_refl _,fun _ h=>(by cases h),fun _ h=>(by cases h),fun _ h=>(by cases h),fun _ h=>(by cases h),fun _ h=>(by cases h),fun _ h=>(by cases h)⟩,by
             rw[DN rfl,DJ rfl,iM,iM];exact HD.out.p1⟩
           have MF:=ah (fun w' A' J' (hl:Mem.le J5 J') (h':Sat W w' (sep (kn J') A'))=>vT (I:=J') fa pA qA y1 e1 z1 y2 e2 z2 (rF.mono hl SH.out.1) h');have qH:=ah (fun w' A' J' (hl:Mem.le J5 J') (h':Sat W w' (sep (kn J') A'))=>vT (I:=J') fb pB qB v1 f1 g1 v2 f2 g2 (rF.mono hl SH.out.2) h');have hpl:fa.parts.length≤97∧fb.parts.length≤97:=by
            have key:∀l:List Fm,l.length≤Fm.sizes l:=by
             intro l
             induction l with
             | nil=>simp
             | cons g l ih=>
              rw[Fm.sizes,List.length_cons];have:1≤g.size:=by cases g;rw[Fm.size];omega
              omega
            have h1:=key fa.parts;have h2:=key fb.parts;have h3:=kU fa;have h4:=kU fb;have:=OZ.out.2.1;have:=MB.out.2.1;omega
           have HPL:=ah hpl;have HT0:=ah hT0;clear hpl hT0 hS0;refine OV [0,5,6,11,12,13,14] DL (pairT 34 34 J5 fa.parts fb.parts (sep (aT 34 4 b3 m3 d3 vs3) A)) (by kernel_rfl) (by kernel_rfl) ?_ ?_ ?_ 7 [0,5,6,11,12,13,14] (fun _=>none) wr.drew rfl (by decide) (fun z=>by simp) (fun _ _ h=>by cases h) HT0.out
           ·intro _ f w' hT
            obtain⟨q',hp',hq'⟩:=fA.1 hT;have he:Ext J5 w':=fun i o hb=>hq'.ext i o (hp'.le i o hb)
            obtain⟨a0,a1,a2,a3⟩:=XA.out w' he;obtain⟨b0,b1,b4,b5⟩:=HCB.out w' he;exact⟨⟨a0,a1,a2,a3⟩,b0,b1,b4,b5⟩
           ·intro i hi f w' o' ho hfi fE hcl hT
            simp only[List.mem_cons,List.not_mem_nil,or_false] at hi;have hno:∀y z,y∈[0,5,6,11,12,13,14]→z∈DL y→f z=none→f y=none:=fun y z hy hz hf=>by
             cases Ie:f y with
             | none=>rfl
             | some v=>have:=hcl y hy (by rw[Ie];rfl) z hz;rw[hf] at this;cases this
            rcases hi with rfl|rfl|rfl|rfl|rfl|rfl|rfl
            ·as_aux_lemma=>
             cases ho;have h6:=hno 6 0 (by decide) (by decide) hfi;have h12:=hno 12 6 (by decide) (by decide) h6;refine .inl ⟨.slice (some ⟨w'.heap.size,0,none⟩) 0 0,w'.alloc (.cells #[] 34),?_,pair_0 hfi h6 h12 (fun q' _ hq'=>(hq'.alloc (.cells #[] 34)).kT 0 0 4 [] rfl (by omega) (by unfold maxLen;omega) rfl rfl) hT⟩
             ·go_simp
            ·as_aux_lemma=>
             cases ho;obtain⟨q',hp',hq'⟩:=fA.1 hT;refine .inr ⟨234,#[.agg #[.int .i64 pA,.int .i64 qA,.slice y1 e1 z1,.slice y2 e2 z2]],w',?_,(MF.out w' _ q'.J hp'.le hq').mono ?_⟩
             ·(go_simp;try rfl)
             ·rintro e w'' ⟨aR,nR,cR,JR,rfl,hnR,NT,hrR,hR⟩
              exact⟨_,rfl,F8 (by decide) hp' NT (fun _=>⟨aR,nR,cR,rfl,hnR,hrR⟩) (fun h=>by cases h) hR⟩
            ·as_aux_lemma=>
             cases ho;obtain⟨v0,hv0⟩:=bV (fE 0 (by decide));obtain⟨v5,hv5⟩:=bV (fE 5 (by decide));have h12:=hno 12 6 (by decide) (by decide) hfi;have h13:=hno 13 12 (by decide) (by decide) h12;obtain⟨q',hp',hq'⟩:=fA.1 hT;obtain⟨rfl,hqn,hqu⟩:=hp'.e0 v0 hv0 hfi;obtain⟨aR,nR,cR,rfl,hnR,hrR⟩:=hp'.r5 v5 hv5;obtain⟨us,yB,hu0,hu1,hur,jy⟩:=kY hrR;rw[nU hv0] at hq';refine (sW (.tmp 79) (.tmp 84) 27 rfl 34 4 64 _ Tryz.underlying27 iF rfl (by simp[cZ,List.filter,DL,hv0,hv5,aS,Act.put,Act.eval]) hq'.p1 (x:=aR) (m:=nR) (cc:=cR) (by simp[cZ,List.filter,DL,hv0,hv5,aS,Act.put,Act.eval]) us yB hu0 (jy w' hq'.ext) hu1 (by have:=HPL.out;omega) (by unfold maxLen;have:=HPL.out;omega)).mono ?_;rintro v w'' ⟨a',c',rfl,h'⟩;refine La (.inl rfl) hp' hv0 (fun _=>⟨h12,by omega,by rw[hqu];exact hur⟩) h13 (fun h=>by cases h) h'
            ·as_aux_lemma=>
             cases ho;obtain⟨q',hp',hq'⟩:=fA.1 hT;refine .inr ⟨234,#[.agg #[.int .i64 pB,.int .i64 qB,.slice v1 f1 g1,.slice v2 f2 g2]],w',?_,(qH.out w' _ q'.J hp'.le hq').mono ?_⟩
             ·(go_simp;try rfl)
             ·rintro e w'' ⟨aR,nR,cR,JR,rfl,hnR,NT,hrR,hR⟩
              exact⟨_,rfl,F8 (by decide) hp' NT (fun h=>by cases h) (fun _=>⟨aR,nR,cR,rfl,hnR,hrR⟩) hR⟩
            ·as_aux_lemma=>
             cases ho;obtain⟨v6,hv6⟩:=bV (fE 6 (by decide));obtain⟨v11,xJ⟩:=bV (fE 11 (by decide));obtain⟨v0,hv0⟩:=bV (hcl 6 (by decide) (by rw[hv6];rfl) 0 (by decide));have h13:=hno 13 12 (by decide) (by decide) hfi;obtain⟨q',hp',hq'⟩:=fA.1 hT;obtain⟨rfl,hqn,hqr⟩:=hp'.e6 v6 hv6 hfi;obtain⟨aR,nR,cR,rfl,hnR,hrR⟩:=hp'.r11 v11 xJ;obtain⟨us,yB,hu0,hu1,hur,jy⟩:=kY hrR;rw[nU hv0] at hq';refine (sW (.tmp 85) (.tmp 90) 27 rfl 34 4 64 _ Tryz.underlying27 iF rfl (by simp[cZ,List.filter,DL,hv6,xJ,aS,Act.put,Act.eval]) hq'.p1 (x:=aR) (m:=nR) (cc:=cR) (by simp[cZ,List.filter,DL,hv6,xJ,aS,Act.put,Act.eval]) us yB hu0 (jy w' hq'.ext) hu1 (by have:=HPL.out;omega) (by unfold maxLen;have:=HPL.out;omega)).mono ?_;rintro v w'' ⟨a',c',rfl,h'⟩;refine La (.inr rfl) hp' hv0 (fun h=>by cases h) h13 (fun _=>⟨by rw[hv6];rfl,by omega,gG hqr hur⟩) h'
            ·as_aux_lemma=>
             cases ho;obtain⟨v12,lC⟩:=bV (fE 12 (by decide));obtain⟨q',hp',hq'⟩:=fA.1 hT;obtain⟨rfl,-,-⟩:=hp'.e12 v12 lC;clear hp' hq';refine .inl ⟨_,w',?_,Xg lC hT⟩;simp[cZ,List.filter,DL,lC,aS,Act.put]
             (go_simp;try rfl)
            ·as_aux_lemma=>
             cases ho;refine .inl ⟨.pointer (some ⟨w'.heap.size,0,none⟩),w'.alloc (.cells #[.int .i64 0,.int .i64 0,.slice none 0 0,.slice none 0 0] 34),?_,Xh hfi (fun q' hq'=>hq'.alloc _) hT⟩
             ·(go_simp;try rfl)
           ·as_aux_lemma=>
            intro f w' hall hT;obtain⟨v0,hv0⟩:=bV (hall 0 (by decide));obtain⟨v5,hv5⟩:=bV (hall 5 (by decide));obtain⟨v6,hv6⟩:=bV (hall 6 (by decide));obtain⟨v11,xJ⟩:=bV (hall 11 (by decide));obtain⟨v12,lC⟩:=bV (hall 12 (by decide));obtain⟨v13,Ko⟩:=bV (hall 13 (by decide));obtain⟨v14,NV⟩:=bV (hall 14 (by decide));obtain⟨q',hp',hq'⟩:=fA.1 hT;obtain⟨rfl,hqn,hqr⟩:=hp'.e12 v12 lC;obtain⟨u,hu,rfl⟩:=hp'.e13 v13 Ko;rw[lC] at hu;cases hu;rw[nU hv0,DK NV] at hq';have hq2:=hq'.p2;rw[fK,Sat.ex] at hq2;obtain⟨g,hq2⟩:=hq2;rw[aj] at hq2;obtain⟨rfl,hB⟩:=Sat.fact.1 hq2;obtain⟨⟨qJ,qus,qa,qn,qc⟩,rfl⟩:∃z,z=q':=⟨_,rfl⟩
            dsimp only at hqn hqr hB lC Ko;have JZ:Mem.le J5 qJ:=hp'.le;obtain⟨k0,k1,k2,k3⟩:=kR hB;have u0:w'.frozen? ⟨g,0,none⟩=false:=hB.aH 0;have u1:w'.frozen? ⟨g,1,none⟩=false:=hB.aH 1;have u2:w'.frozen? ⟨g,2,none⟩=false:=hB.aH 2;have u3:w'.frozen? ⟨g,3,none⟩=false:=hB.aH 3;have hB2:=PD hB (.int .i64 4) (.int .i64 0) (.slice none 0 0) (.slice qa qn qc);obtain⟨wz,hwz⟩:=aB ((((w'.setCell ⟨g,0,none⟩ (.int .i64 4)).setCell ⟨g,1,none⟩ (.int .i64 0)).setCell ⟨g,2,none⟩ (.slice none 0 0)).setCell ⟨g,3,none⟩ (.slice qa qn qc));rw[←hwz] at hB2;obtain⟨J6,Uc,hrl,hB3⟩:=je hqr (by rw[dF];exact hqn) (show Sat W wz (sep (aT 34 4 qa qn qc qus) (sep (kn qJ) (sep (blk g (.cells #[.int .i64 4,.int .i64 0,.slice none 0 0,.slice qa qn qc] 34 (0,0))) (sep (aT 34 4 b3 m3 d3 vs3) A)))) from dJ hB2);have hlen:qn=(fa.parts++fb.parts).length:=by rw[dF];exact hqn
            have HZ:=ah (And.intro (eG JZ Uc) (And.intro hrl (And.intro hB3 hlen)));have HWZ:=ah hwz;simp only[cZ,List.foldl,hv0,hv5,hv6,xJ,lC,Ko,NV,aS];clear hq' hq2 hB hB2 hwz hqn hqr hrl hB3 hlen JZ Uc hp' hT hall hv0 hv5 hv6 xJ lC Ko NV;simp only[Act.put,CU,CX,CY,Option.bind_some,lsA,lsB,kJ]
            (refine XQ rfl rfl (fun K hK=>?_);go_simp)
            rw[←HWZ.out];refine dQ ?_;clear hK K;refine lG ?_;refine vI ?_;clear k0 k1 k2 k3 u0 u1 u2 u3
            go_wp2
            go_meet
            case rel=>exact⟨g,qa,qn,qc,J6,rfl,HZ.out.1,by rw[HZ.out.2.2.2];exact jm (by rw[←HZ.out.2.2.2];exact HZ.out.2.1),HZ.out.2.2.1.p1⟩
          case rest=>
           as_aux_lemma=>
           obtain⟨g,pa,pm,pd,J6,rfl,JZ,MG,hSw⟩:=hcut;obtain⟨k0,k1,k2,k3⟩:=kR hSw;have sG:=ah (jB (eP fa fb) 4 0 none 0 0 pa pm pd MG (by have h1:=DR fa fb;have:=OZ.out.2.1;have:=MB.out.2.1;unfold mg;omega) hSw.p1);obtain⟨fe,hfe⟩:=aB (jV (eP fa fb));rw[←hfe] at sG;have vY:=ah hfe;have SG:=ah (And.intro JZ MG);clear JZ MG hSw hfe HD
           go_wp2_with fail
           refine sG.out.mono ?_;rintro e w3 ⟨rfl,h3⟩;clear k0 k1 k2 k3 sG;have H3:=ah (show Sat W w3 (sep (blk g (.cells #[.int .i64 4,.int .i64 0,.slice none 0 0,.slice pa pm pd] 34 (0,0))) (sep (kn J6) (sep (aT 34 4 b3 m3 d3 vs3) A))) from h3.p1);clear h3
           by_cases he0:fe=0
           ·subst he0
            obtain⟨k0,k1,k2,k3⟩:=kR H3.out;have jX:=ah (iP w3 [.int .i64 4,.int .i64 0,.slice none 0 0,.slice pa pm pd] 34);have su:=ah (H3.out.drop.p1.gQ (.cells #[.int .i64 4,.int .i64 0,.slice none 0 0,.slice pa pm pd] 34));clear H3
            go_upto_region 20 with (fail)
            go_wp2_with (at_builtin;refine aJ rfl _ _ 27 rfl 34 4 64 _ Tryz.underlying27 iF rfl rfl su.out rfl [.int .i64 4,.int .i64 0,.slice none 0 0,.slice pa pm pd] rfl (by simp) (by intro b' hb;cases hb;exact jX.out) (yg SG.out.2) (by have:=HM3.out;omega) (by unfold maxLen;have:=HM3.out;omega) ?_)
            intro a7 c7 w7 h7;have H7:=ah h7;clear h7 su jX k0 k1 k2 k3
            go_wp2
            go_roundw
            case rel=>
             have htk:tp.take (ib+1)=tp.take ib++[fb]:=by rw[List.take_add_one,MB.out.1];rfl
             refine⟨ib+1,m3+1,c7,a7,_,J6,rfl,by go_num,by have:=MB.out.2.2;omega,ah ⟨?_,fun i fb' hi hf=>?_,eG rP.out.2.2.1 SG.out.1,?_⟩,H7.out⟩
             ·rw[htk,oO,←List.append_assoc,dF,←rP.out.1];rfl
             ·rcases Nat.lt_succ_iff_lt_or_eq.1 hi with hi|rfl
              ·exact rP.out.2.1 i fb' hi hf
              ·rw[MB.out.1] at hf;cases hf;exact vY.out.symm
             ·rw[htk,oO,←List.append_assoc]
              exact gG ((rF.rows 4).mono SG.out.1 rP.out.2.2.2) (ig SG.out.2 rfl)
            case measure=>simp[intOf];have:=MB.out.2.2;omega
           ·have he1:(fe !=0)=true:=by simpa using he0
            have he2:(fe==0)=false:=by simpa using he0
            have HF:Hid (av=none):=ah (by
             rw[HAY.out,wE (List.mem_of_getElem? OZ.out.1) (List.mem_of_getElem? MB.out.1) (by rw[←vY.out];exact he0)])
            have HL:Hid (Mem.le J J6):=ah (eG (eG (eG Jf.out.2.2.2.2.1 lW.out.2.2.1) rP.out.2.2.1) SG.out.1);have HF2:=ah (H3.out.drop.p1.dW);clear he0 H3
            go_wp2
            refine bodyPost_ret (v:=.tuple #[.slice none 0 0,.bool false]) (by simp[results,Tryz.results221,go_sem]) rfl ?_;exact⟨none,0,0,J6,by rw[HF.out];rfl,HL.out,fun y hy=>(by rw[HF.out] at hy;cases hy),HF2.out⟩
         ·obtain rfl:ib=tn:=by omega
          have MP:=ah hS3;clear hS3 HS2
          go_wp2
          go_roundw
          case rel=>
           have htk:tp.take ib=tp:=List.take_of_length_le (by have:=HT.out.1;omega);have hv3:=rP.out;rw[htk] at hv3;refine⟨ia+1,m3,d3,b3,vs3,J5,y++tp.map (eP fa),rfl,by go_num,by have:=OZ.out.2.2;omega,ah ⟨by rw[←List.append_assoc];exact hv3.1,zJ OZ.out.1 lW.out.2.1 (Lr fun i fb hf=>hv3.2.1 i fb (by have:=(List.getElem?_eq_some_iff.1 hf).1;have:=HT.out.1;omega) hf),eG lW.out.2.2.1 hv3.2.2.1,by rw[←List.append_assoc];exact hv3.2.2.2⟩,MP.out⟩
          case measure=>simp[intOf];have:=OZ.out.2.2;omega
       ·obtain rfl:ia=xm:=by omega
        have MP:=ah hS2;clear hS2 H2
        go_wp2
        go_roundw
        case rel=>
         have hc:=lW.out.2.1;rw[List.take_of_length_le (by have:=Jf.out.1;omega)] at hc;have hay:=HAY.out;rw[hc] at hay;have hm2:m2≤64:=by
          rw[lW.out.1,dF,kP hc,←HMT.out.2,←HV.out.1];have:=Qj.out;omega
         exact⟨j+1,m2,d2,b2,vs2,J4,ol++y,rfl,by go_num,by have:=HJ.out.1;omega,hm2,ah ⟨lW.out.1,hay,eG (eG HV.out.2.2.1 Jf.out.2.2.2.2.2) lW.out.2.2.1,lW.out.2.2.2⟩,MP.out⟩
        case measure=>simp[intOf];have:=HJ.out.1;omega
   ·obtain rfl:j=nr:=by omega
    have hfin:av=some ol:=by rw[HV.out.2.1];exact zD (by have:=HX.out.2.1;omega)
    obtain⟨J',hle',hr',h'⟩:=je HV.out.2.2.2 HV.out.1 hS;have HF:=ah (And.intro hfin (And.intro (eG vG hle') (And.intro hr' h')));clear hfin hle' hr' h' hS vG H1
    go_wp2
    refine bodyPost_ret (v:=.tuple #[.slice bO m d,.bool true]) (by simp[results,Tryz.results221,go_sem]) rfl ?_;exact⟨bO,m,d,J',by rw[HF.out.1];rfl,HF.out.2.1,fun y hy=>(by rw[HF.out.1] at hy;cases hy;exact⟨HV.out.1,HF.out.2.2.1⟩),HF.out.2.2.2⟩
end Go.Proofs.YthfmaclnccdcbaaGreatDoor

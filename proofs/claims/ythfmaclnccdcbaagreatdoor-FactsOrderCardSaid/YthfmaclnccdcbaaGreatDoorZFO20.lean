/- Part of a proof. -/
import Derived.Test.YthfmaclnccdcbaaGreatDoorZFO18
namespace Go.Proofs.YthfmaclnccdcbaaGreatDoor
open Go.RowKit PA
attribute [local go_sem ↓] iF
theorem bsFm0 (w:World):(Y2 0 #[]).run Tryz.prog w=.ok (.slice (some ⟨w.heap.size,0,none⟩) 0 0) (w.alloc (.cells #[] 34)):=by
 obtain⟨i,h1,h2,h3,h4⟩:=info_parts iQ;show (Instr.buildSlice 27 0 #[]).run Tryz.prog w=_;simp[Instr.buildSlice,run_underlying Tryz.underlying27,sizeOf,typeInfo,h1,newRow,Instr.fill];have e:∀g:Nat→Value,(Array.range 0).map g=#[]:=fun g=>Array.eq_empty_of_size_eq_zero (by simp)
 rw[e]
attribute [local go_sem] bsFm0 DN
def EJ:Nat→List Nat:=fun x=>if x=6 then [0,5] else if x=12 then [6,11] else if x=13 then [12] else []
set_option maxRecDepth 100000 in
set_option maxHeartbeats 16000000 in
theorem JG {W:World} {I:Mem} (a:Option Addr) (n c:Nat) (l:List Cl) (hv:(lM.slice 5).rel I [.slice a n c] l) (hok:qQ l=0):
 ∀(k:Nat),k<l.length→∀(w:World) (A:aB) (J:Mem),Mem.le I J→Sat W w (sep (kn J) A) →
  Calls Tryz.prog 221 #[.slice a n c,.int .i64 (k:Nat)] w fun e w'=>∃(b:Option Addr) (m d:Nat) (J':Mem),e=.returned (.tuple #[.slice b m d,.bool (fU l k).isSome])∧Mem.le J J'∧(∀y,fU l k=some y→m=y.length∧(rF.slice 4).rel J' [.slice b m d] y)∧Sat W w' (sep (kn J') A):=by
 intro k
 induction k using Nat.strongRecOn with
 | ind k ih=>
 intro hk w A J hle h;obtain⟨x,hx⟩:∃x,l[k]?=some x:=⟨_,iM hk⟩
 have hn:=(aJ hv).1;obtain⟨b,o,ra,rc,p,q,x1,n1,c1,x2,n2,c2,rfl,hrr,hrb,hcell⟩:=vH hv hx;obtain⟨hrl,OQ,hbe⟩:x.refs.length≤8∧kK x.refs k=true∧kQ x.body=0:=by
  obtain⟨hk',e⟩:=qM hx;have:=(uG hok).2 k hk'
  rwa [e] at this
 have hbs:=lY hbe;have abe:=ah (JI x.body w A J p q x1 n1 c1 x2 n2 c2 (rF.mono hle hrb) (by unfold nN;omega) h);obtain⟨k0,k1,k2,k3,k4⟩:=hcell w (fun i o hb=>h.ext i o (hle i o hb));obtain⟨tp,htp⟩:=aC (x.body.dO);obtain⟨nr,hnr⟩:=aC (x.refs.length);obtain⟨av,hav⟩:=aC (fU l k);have hae:=CG hx;have FX:Hid (av=tX (fun r=>if r<k then fU l r else none) x):=ah (by rw[hav,hae]);have htl:tp.length≤96:=by rw[htp];have:=Fm.zo x.body;omega
 have hts:∀f∈tp,f.size≤96:=fun f hf=>by rw[htp] at hf;have:=Aq x.body f hf;omega
 rw[←htp] at abe;rw[←hav];rw[←hnr] at hrr k0 hrl;have HX:=ah (aH htp (aH hnr (aH OQ (aH htl hts))));have HC:=ah (fun w' (he:Ext J w')=>hcell w' (fun i o hb=>he i o (hle i o hb)));have HRR:=ah (aH hrr hle);have HIH:=ah ih;have mQ:=ah (aH hok hk);have hkz:(k:Int)<(n:Int):=by omega
 have hn63:=(aJ hv).2.2;have afP:(nr:Int)≤8:=by omega
 simp only[←hnr] at HC;clear hv hok ih hk hle h hx hn hrr hrb hcell hrl OQ hbe hbs htp hnr hav hae htl hts;go_enter Tryz.func221,Tryz.ntmps221;go_wp2_with fail;refine abe.out.mono ?_;rintro e w1 ⟨ta,tn,tc,J1,rfl,htn,hle1,htr,h1⟩;clear k0 k1 k2 k3 k4;obtain⟨k0,k1,k2,k3,k4⟩:=HC.out w1 (fun i o hb=>h1.ext i o (hle1 i o hb));have HT:=ah (aH htn (aH hle1 htr));have H1:=ah h1;have af4:(tn:Int)≤96:=by have:=HX.out.2.2.2.1;omega
 clear h1 htn hle1 htr abe;by_cases hr0:nr=0
 ·subst hr0
  have hrn:x.refs=[]:=Ju HX.out.2.1.symm;have HA:Hid (av=if tp.length≤64 then some tp else none):=ah (by rw[FX.out];unfold tX;rw[if_pos hrn,←HX.out.1]);clear hrn;go_wp2;have ht:=HT.out;refine bodyPost_ret (v:=.tuple #[.slice ta tn tc,.bool (decide ((tn:Int)≤64))]) (by simp[results,Tryz.results221,go_sem]) rfl ?_;refine⟨ta,tn,tc,J1,?_,ht.2.1,fun y hy=>?_,H1.out⟩
  ·have:av.isSome=decide ((tn:Int)≤64):=by
    rw[HA.out,←ht.1];by_cases h64:tn≤64
    ·rw[if_pos h64,decide_eq_true (by omega)];rfl
    ·rw[if_neg h64,decide_eq_false (by omega)];rfl
   rw[this]
  ·rw[HA.out] at hy
   split at hy
   ·cases hy;exact⟨ht.1,ht.2.2⟩
   ·cases hy
 ·have abD:((nr:Int)==0)=false:=by simp;omega
  have HA:Hid (av=eH (fun r=>if r<k then fU l r else none) tp (x.refs.drop 0) []):=ah (by
   rw[FX.out];unfold tX;rw[if_neg (fun e=>hr0 (by rw[HX.out.2.1,e];rfl)),←HX.out.1];rfl)
  clear hr0;go_upto_region 4 with fail;clear k0 k1 k2 k3 k4 abD;go_wp2_with fail;go_loopw [7,8] (fun ov iv wr=>∃(j m d:Nat) (bO:Option Addr) (vs:List Value) (J2:Mem) (ol:List Fm),ov=.slice bO m d∧iv=.int .i64 j∧j≤nr∧m≤64∧Hid (m=ol.length∧av=eH (fun r=>if r<k then fU l r else none) tp (x.refs.drop j) ol∧Mem.le J1 J2∧(rF.rows 4).rel J2 vs ol)∧Sat W wr (sep (aT 34 4 bO m d vs) (sep (kn J2) A))) (fun _ iv _=>nr-(intOf iv).toNat)
  case atStart=>exact⟨0,0,0,none,[],J1,[],rfl,rfl,by omega,by omega,ah ⟨rfl,HA.out,bW _,lN _ _ _⟩,H1.out.fV 34 4⟩
  case round=>
   obtain⟨j,m,d,bO,vs,J2,ol,rfl,rfl,hj,hm,HV,hS⟩:=hrel;have wH:Mem.le J J2:=eG HT.out.2.1 HV.out.2.2.1;obtain⟨k0,-,-,-,-⟩:=HC.out wr (fun i o hb=>hS.p1.ext i o (wH i o hb));by_cases hlt:j<nr
   ·as_aux_lemma=>
    have hltz:(j:Int)<(nr:Int):=by omega
    obtain⟨r,hr⟩:∃r,x.refs[j]?=some r:=⟨_,iM (by have:=HX.out.2.1;omega)⟩
    obtain⟨rb,ro,rfl,hrc⟩:=l9 HRR.out.1 hr;have hrk:=Ak HX.out.2.2.1 r (mZ hr);obtain⟨rn,rfl⟩:∃rn:Nat,r=(rn:Int):=⟨r.toNat,by omega⟩
    have abH:rn<k:=by omega
    have c0:=hrc wr (fun i o hb=>hS.p1.ext i o (eG HRR.out.2 wH i o hb));have hrec:=HIH.out rn abH (by have:=mQ.out.2;omega) wr _ J2 (eG HRR.out.2 wH) hS.p1;have hat:=Dw (of:=fun r=>if r<k then fU l r else none) (own:=tp) (out:=ol) hr;simp only[Int.toNat_natCast,if_pos abH] at hat;obtain⟨al,hal⟩:=aC (fU l rn);have hsz:∀y,al=some y→(∀f∈y,f.size≤96)∧y.length≤64:=fun y e=>⟨GX mQ.out.1 (by rw[←hal];exact e),yF (by rw[←hal];exact e)⟩
    rw[←hal] at hrec hat;have acN:=ah hrec;have HAT:=ah (HV.out.2.1.trans hat);have KI:=ah hsz;have HJ:=ah (aH hlt (aH hm wH));have hmz:(m:Int)≤64:=by omega
    clear hrc hrk abH hr hrec hat hal hsz hlt hm hj hS wH H1 HA;go_upto_region 8 with fail;go_wp2_with fail;refine acN.out.mono ?_;rintro e w2 ⟨xb,xm,xd,J3,rfl,hle3,hres,h2⟩;clear k0 c0 acN;cases al with
    | none=>
     have HF:Hid (av=none):=ah (by rw[HAT.out]);have H2:=ah h2.p1.eu;have HL:=ah (eG HJ.out.2.2 hle3);clear h2 hres hle3;go_wp2;refine bodyPost_ret (v:=.tuple #[.slice none 0 0,.bool false]) (by simp[results,Tryz.results221,go_sem]) rfl ?_;exact⟨none,0,0,J3,by rw[HF.out];rfl,HL.out,fun y hy=>(by rw[HF.out] at hy;cases hy),H2.out⟩
    | some xl=>
     obtain⟨hxm,hxr⟩:=hres xl rfl;obtain⟨hxs,oO⟩:=KI.out xl rfl;obtain⟨mt,hmt⟩:=aC (xm*tn);have emt:(xm:Int)*(tn:Int)=(mt:Int):=by rw[hmt];push_cast;rfl
     have abz:mt≤6144:=by
      rw[hmt];exact Nat.le_trans (Nat.mul_le_mul (show xm≤64 by omega) (show tn≤96 by omega)) (by decide)
     have H2:=ah h2.p1;have SV:=ah (aH hxm (aH hxr (aH hxs (aH oO (aH (eG HJ.out.2.2 hle3) hle3)))));have P7:mt=xl.length*tp.length:=by rw[hmt,hxm,HT.out.1]
     have IU:=HAT.out;simp only at IU;rw[←P7,←HV.out.1] at IU;have HAX:=ah IU;have HMT:=ah (aH hmt P7);have afK:(mt:Int)≤6144:=by omega
     have hxz:(xm:Int)≤64:=by omega
     clear h2 hres hle3 hxm hxr hxs oO hmt P7 abz IU HAT KI;by_cases h64:64<m+mt
     ·have Wv:(64:Int)<(m:Int)+(mt:Int):=by omega
      have HF:Hid (av=none):=ah (by rw[HAX.out,if_pos h64]);have HF2:=ah H2.out.eu;clear h64 H2;go_wp2;refine bodyPost_ret (v:=.tuple #[.slice none 0 0,.bool false]) (by simp[results,Tryz.results221,go_sem]) rfl ?_;exact⟨none,0,0,J3,by rw[HF.out];rfl,SV.out.2.2.2.2.1,fun y hy=>(by rw[HF.out] at hy;cases hy),HF2.out⟩
     ·have Wv:¬(64:Int)<(m:Int)+(mt:Int):=by omega
      have HAY:Hid (av=match eX xl tp with|none=>none|some y=>eH (fun r=>if r<k then fU l r else none) tp (x.refs.drop (j+1)) (ol++y)):=ah (by rw[HAX.out,if_neg h64];rfl);have H64:=ah h64;clear h64;go_upto_region 11 with fail;clear Wv emt;go_wp2_with fail;go_loopw [7,11] (fun ov iv wr=>∃(ia m2 d2:Nat) (b2:Option Addr) (vs2:List Value) (J4:Mem) (y:List Fm),ov=.slice b2 m2 d2∧iv=.int .i64 ia∧ia≤xm∧Hid (m2=(ol++y).length∧eX (xl.take ia) tp=some y∧Mem.le J3 J4∧(rF.rows 4).rel J4 vs2 (ol++y))∧Sat W wr (sep (aT 34 4 b2 m2 d2 vs2) (sep (kn J4) A))) (fun _ iv _=>xm-(intOf iv).toNat)
      case atStart=>exact⟨0,m,d,bO,vs,J3,[],rfl,rfl,by omega,ah ⟨by rw[List.append_nil];exact HV.out.1,rfl,bW _,by rw[List.append_nil];exact (rF.rows 4).mono SV.out.2.2.2.2.2 HV.out.2.2.2⟩,H2.out⟩
      case round=>
       obtain⟨ia,m2,d2,b2,vs2,J4,y,rfl,rfl,hia,pO,hS2⟩:=hrel;by_cases hlt2:ia<xm
       ·as_aux_lemma=>
        have WB:(ia:Int)<(xm:Int):=by omega
        obtain⟨fa,hfa⟩:∃fa,xl[ia]?=some fa:=⟨_,iM (by have:=SV.out.1;omega)⟩
        obtain⟨ba,oa,pA,qA,y1,e1,z1,y2,e2,z2,rfl,hra,hca⟩:=gY SV.out.2.1 hfa;have MW:y.length=ia*tp.length:=by
         have:=lF pO.out.2.1;rw[List.length_take,Nat.min_eq_left (by have:=SV.out.1;omega)] at this;exact this
        have hyb:y.length+tp.length≤mt:=by
         rw[MW,HMT.out.2];have h1:ia+1≤xl.length:=by have:=SV.out.1;omega
         have h2:=Nat.mul_le_mul_right tp.length h1;rw[Nat.add_mul,Nat.one_mul] at h2;exact h2
        have HYB:=ah hyb;have QU:=ah (aH hfa (aH (SV.out.2.2.1 fa (mZ hfa)) hlt2));have YD:=ah (aH hra hca);have HS2:=ah hS2;clear MW hyb hfa hra hca hS2 hlt2 hia H2;go_upto_region 14 with fail;go_wp2_with fail;go_loopw [7,12] (fun ov iv wr=>∃(ib m3 d3:Nat) (b3:Option Addr) (vs3:List Value) (J5:Mem),ov=.slice b3 m3 d3∧iv=.int .i64 ib∧ib≤tn∧Hid (m3=(ol++y++(tp.take ib).map (fC fa)).length∧(∀(i:Nat) (fb:Fm),i<ib→tp[i]?=some fb→kQ (fC fa fb)=0)∧Mem.le J4 J5∧(rF.rows 4).rel J5 vs3 (ol++y++(tp.take ib).map (fC fa)))∧Sat W wr (sep (aT 34 4 b3 m3 d3 vs3) (sep (kn J5) A))) (fun _ iv _=>tn-(intOf iv).toNat)
        case atStart=>exact⟨0,m2,d2,b2,vs2,J4,rfl,rfl,by omega,ah ⟨by simp only[List.take_zero,List.map_nil,List.append_nil];exact pO.out.1,fun i fb hi _=>absurd hi (Nat.not_lt_zero _),bW _,by simp only[List.take_zero,List.map_nil,List.append_nil];exact pO.out.2.2.2⟩,HS2.out⟩
        case round=>
         obtain⟨ib,m3,d3,b3,vs3,J5,rfl,rfl,hib,tH,hS3⟩:=hrel;by_cases hlt3:ib<tn
         ·as_aux_lemma=>
          have adI:(ib:Int)<(tn:Int):=by omega
          obtain⟨fb,hfb⟩:∃fb,tp[ib]?=some fb:=⟨_,iM (by have:=HT.out.1;omega)⟩
          obtain⟨bb,ob,pB,qB,v1,f1,g1,v2,f2,g2,rfl,hrb,hcb⟩:=gY HT.out.2.2 hfb;have RI:Mem.le J3 J5:=eG pO.out.2.2.1 tH.out.2.2.1;have Eh:Mem.le J1 J5:=eG (eG HV.out.2.2.1 SV.out.2.2.2.2.2) RI;have Z5:=ah (fun w' (he:Ext J5 w')=>YD.out.2 w' (fun i o hb=>he i o (RI i o hb)));have HCB:=ah (fun w' (he:Ext J5 w')=>hcb w' (fun i o hb=>he i o (Eh i o hb)));have U8:=ah (aH (rF.mono RI YD.out.1) (rF.mono Eh hrb));have OI:=ah (aH hfb (aH (HX.out.2.2.2.2 fb (mZ hfb)) hlt3));have HM3:Hid (m3+1≤64):=ah (by
           have h1:=tH.out.1;rw[dM,dM,List.length_map,List.length_take,Nat.min_eq_left (by have:=HT.out.1;omega)] at h1;have:=HYB.out;have:=HT.out.1;have:=H64.out;have:=HV.out.1;omega)
          have hd:=hS3.drew;have HD:=ah hd;have KG:=ah hS3;clear hrb hcb RI Eh hfb hS3 hlt3 hib hd HS2;go_upto_region 17 with fail;go_cut [13] from 73 to 99 (fun v wx=>∃(g:Nat) (pa:Option Addr) (pm pd:Nat) (J6:Mem),v=.pointer (some ⟨g,0,none⟩)∧Mem.le J5 J6∧rF.rel J6 [.int .i64 4,.int .i64 0,.slice none 0 0,.slice pa pm pd] (fC fa fb)∧Sat W wx (sep (blk g (.cells #[.int .i64 4,.int .i64 0,.slice none 0 0,.slice pa pm pd] 34 (0,0))) (sep (kn J6) (sep (aT 34 4 b3 m3 d3 vs3) A))))
          case first=>
           as_aux_lemma=>
           obtain⟨a0,a1,a2,a3⟩:=Z5.out wr.drew HD.out.p1.ext;obtain⟨b0,b1,b4,b5⟩:=HCB.out wr.drew HD.out.p1.ext;have hS0:(wr.drew.cell? ⟨ba,oa+ia*4,none⟩=some (.int .i64 pA)∧wr.drew.cell? ⟨ba,oa+ia*4+1,none⟩=some (.int .i64 qA)∧wr.drew.cell? ⟨ba,oa+ia*4+2,none⟩=some (.slice y1 e1 z1)∧wr.drew.cell? ⟨ba,oa+ia*4+3,none⟩=some (.slice y2 e2 z2))∧(wr.drew.cell? ⟨bb,ob+ib*4,none⟩=some (.int .i64 pB)∧wr.drew.cell? ⟨bb,ob+ib*4+1,none⟩=some (.int .i64 qB)∧wr.drew.cell? ⟨bb,ob+ib*4+2,none⟩=some (.slice v1 f1 g1)∧wr.drew.cell? ⟨bb,ob+ib*4+3,none⟩=some (.slice v2 f2 g2)):=⟨⟨a0,a1,a2,a3⟩,b0,b1,b4,b5⟩
           clear a0 a1 a2 a3 b0 b1 b4 b5;refine fE rfl (fun w'=>(w'.cell? ⟨ba,oa+ia*4,none⟩=some (.int .i64 pA)∧w'.cell? ⟨ba,oa+ia*4+1,none⟩=some (.int .i64 qA)∧w'.cell? ⟨ba,oa+ia*4+2,none⟩=some (.slice y1 e1 z1)∧w'.cell? ⟨ba,oa+ia*4+3,none⟩=some (.slice y2 e2 z2))∧(w'.cell? ⟨bb,ob+ib*4,none⟩=some (.int .i64 pB)∧w'.cell? ⟨bb,ob+ib*4+1,none⟩=some (.int .i64 qB)∧w'.cell? ⟨bb,ob+ib*4+2,none⟩=some (.slice v1 f1 g1)∧w'.cell? ⟨bb,ob+ib*4+3,none⟩=some (.slice v2 f2 g2))) [.one 1 .p,.one 2 .p,.one 3 .p,.one 4 .s,.one 7 .p,.one 8 .p,.one 9 .p,.one 10 .s,.grp true [(0,[]),(5,[]),(6,[]),(11,[]),(12,[]),(13,[]),(14,[])],.one 15 (.e false)] (by kernel_rfl) ?_;refine mG ?_;refine Dp (n:=7) rfl ?_;have hT0:Sat W wr.drew (pairT 34 34 J5 fa.parts fb.parts (sep (aT 34 4 b3 m3 d3 vs3) A) (fun _=>none)):=
            fF.2 ⟨⟨J5,[],none,0,0⟩,⟨bW _,fun _ h=>(by cases h),fun _ h=>(by cases h),fun _ h=>(by cases h),fun _ h=>(by cases h),fun _ h=>(by cases h),fun _ h=>(by cases h)⟩,by
             rw[EK rfl,EH rfl,jc,jc];exact HD.out.p1⟩
           have OL:=ah (fun w' A' J' (hl:Mem.le J5 J') (h':Sat W w' (sep (kn J') A'))=>wX (I:=J') fa pA qA y1 e1 z1 y2 e2 z2 (rF.mono hl U8.out.1) h');have rW:=ah (fun w' A' J' (hl:Mem.le J5 J') (h':Sat W w' (sep (kn J') A'))=>wX (I:=J') fb pB qB v1 f1 g1 v2 f2 g2 (rF.mono hl U8.out.2) h');have hpl:fa.parts.length≤97∧fb.parts.length≤97:=by
            have key:∀l:List Fm,l.length≤Fm.sizes l:=by
             intro l
             induction l with
             | nil=>simp
             | cons g l ih=>
              rw[Fm.sizes,oP];have:1≤g.size:=by cases g;rw[Fm.size];omega
              omega
            have h1:=key fa.parts;have h2:=key fb.parts;have h3:=lK fa;have h4:=lK fb;have:=QU.out.2.1;have:=OI.out.2.1;omega
           have YC:=ah hpl;have HT0:=ah hT0;clear hpl hT0 hS0;refine QN [0,5,6,11,12,13,14] EJ (pairT 34 34 J5 fa.parts fb.parts (sep (aT 34 4 b3 m3 d3 vs3) A)) (by kernel_rfl) (by kernel_rfl) ?_ ?_ ?_ 7 [0,5,6,11,12,13,14] (fun _=>none) wr.drew rfl (by decide) (fun z=>by simp) (fun _ _ h=>by cases h) HT0.out
           ·intro _ f w' hT
            obtain⟨q',hp',hq'⟩:=fF.1 hT;have he:Ext J5 w':=fun i o hb=>hq'.ext i o (hp'.le i o hb)
            obtain⟨a0,a1,a2,a3⟩:=Z5.out w' he;obtain⟨b0,b1,b4,b5⟩:=HCB.out w' he;exact⟨⟨a0,a1,a2,a3⟩,b0,b1,b4,b5⟩
           ·intro i hi f w' o' ho hfi fK hcl hT
            simp only[List.mem_cons,List.not_mem_nil,or_false] at hi;have hno:∀y z,y∈[0,5,6,11,12,13,14]→z∈EJ y→f z=none→f y=none:=fun y z hy hz hf=>by
             cases Jm:f y with
             | none=>rfl
             | some v=>have:=hcl y hy (by rw[Jm];rfl) z hz;rw[hf] at this;cases this
            rcases hi with rfl|rfl|rfl|rfl|rfl|rfl|rfl
            ·as_aux_lemma=>
             cases ho;have h6:=hno 6 0 (by decide) (by decide) hfi;have h12:=hno 12 6 (by decide) (by decide) h6;refine .inl ⟨.slice (some ⟨w'.heap.size,0,none⟩) 0 0,w'.alloc (.cells #[] 34),?_,pair_0 hfi h6 h12 (fun q' _ hq'=>(hq'.alloc (.cells #[] 34)).lJ 0 0 4 [] rfl (by omega) (by unfold maxLen;omega) rfl rfl) hT⟩
             ·go_simp
            ·as_aux_lemma=>
             cases ho;obtain⟨q',hp',hq'⟩:=fF.1 hT;refine .inr ⟨234,#[.agg #[.int .i64 pA,.int .i64 qA,.slice y1 e1 z1,.slice y2 e2 z2]],w',?_,(OL.out w' _ q'.J hp'.le hq').mono ?_⟩
             ·(go_simp;try rfl)
             ·rintro e w'' ⟨aR,nR,cR,JR,rfl,hnR,P6,hrR,hR⟩
              exact⟨_,rfl,Ih (by decide) hp' P6 (fun _=>⟨aR,nR,cR,rfl,hnR,hrR⟩) (fun h=>by cases h) hR⟩
            ·as_aux_lemma=>
             cases ho;obtain⟨v0,hv0⟩:=cO (fK 0 (by decide));obtain⟨v5,hv5⟩:=cO (fK 5 (by decide));have h12:=hno 12 6 (by decide) (by decide) hfi;have h13:=hno 13 12 (by decide) (by decide) h12;obtain⟨q',hp',hq'⟩:=fF.1 hT;obtain⟨rfl,hqn,hqu⟩:=hp'.e0 v0 hv0 hfi;obtain⟨aR,nR,cR,rfl,hnR,hrR⟩:=hp'.r5 v5 hv5;obtain⟨us,zB,hu0,hu1,hur,jQ⟩:=lU hrR;rw[oW hv0] at hq';refine (uH (.tmp 79) (.tmp 84) 27 rfl 34 4 64 _ Tryz.underlying27 iQ rfl (by simp[dB,List.filter,EJ,hv0,hv5,aU,Act.put,Act.eval]) hq'.p1 (x:=aR) (m:=nR) (cc:=cR) (by simp[dB,List.filter,EJ,hv0,hv5,aU,Act.put,Act.eval]) us zB hu0 (jQ w' hq'.ext) hu1 (by have:=YC.out;omega) (by unfold maxLen;have:=YC.out;omega)).mono ?_;rintro v w'' ⟨a',c',rfl,h'⟩;refine NK (.inl rfl) hp' hv0 (fun _=>⟨h12,by omega,by rw[hqu];exact hur⟩) h13 (fun h=>by cases h) h'
            ·as_aux_lemma=>
             cases ho;obtain⟨q',hp',hq'⟩:=fF.1 hT;refine .inr ⟨234,#[.agg #[.int .i64 pB,.int .i64 qB,.slice v1 f1 g1,.slice v2 f2 g2]],w',?_,(rW.out w' _ q'.J hp'.le hq').mono ?_⟩
             ·(go_simp;try rfl)
             ·rintro e w'' ⟨aR,nR,cR,JR,rfl,hnR,P6,hrR,hR⟩
              exact⟨_,rfl,Ih (by decide) hp' P6 (fun h=>by cases h) (fun _=>⟨aR,nR,cR,rfl,hnR,hrR⟩) hR⟩
            ·as_aux_lemma=>
             cases ho;obtain⟨v6,hv6⟩:=cO (fK 6 (by decide));obtain⟨v11,yL⟩:=cO (fK 11 (by decide));obtain⟨v0,hv0⟩:=cO (hcl 6 (by decide) (by rw[hv6];rfl) 0 (by decide));have h13:=hno 13 12 (by decide) (by decide) hfi;obtain⟨q',hp',hq'⟩:=fF.1 hT;obtain⟨rfl,hqn,hqr⟩:=hp'.e6 v6 hv6 hfi;obtain⟨aR,nR,cR,rfl,hnR,hrR⟩:=hp'.r11 v11 yL;obtain⟨us,zB,hu0,hu1,hur,jQ⟩:=lU hrR;rw[oW hv0] at hq';refine (uH (.tmp 85) (.tmp 90) 27 rfl 34 4 64 _ Tryz.underlying27 iQ rfl (by simp[dB,List.filter,EJ,hv6,yL,aU,Act.put,Act.eval]) hq'.p1 (x:=aR) (m:=nR) (cc:=cR) (by simp[dB,List.filter,EJ,hv6,yL,aU,Act.put,Act.eval]) us zB hu0 (jQ w' hq'.ext) hu1 (by have:=YC.out;omega) (by unfold maxLen;have:=YC.out;omega)).mono ?_;rintro v w'' ⟨a',c',rfl,h'⟩;refine NK (.inr rfl) hp' hv0 (fun h=>by cases h) h13 (fun _=>⟨by rw[hv6];rfl,by omega,gQ hqr hur⟩) h'
            ·as_aux_lemma=>
             cases ho;obtain⟨v12,l7⟩:=cO (fK 12 (by decide));obtain⟨q',hp',hq'⟩:=fF.1 hT;obtain⟨rfl,-,-⟩:=hp'.e12 v12 l7;clear hp' hq';refine .inl ⟨_,w',?_,ZF l7 hT⟩;simp[dB,List.filter,EJ,l7,aU,Act.put]
             (go_simp;try rfl)
            ·as_aux_lemma=>
             cases ho;refine .inl ⟨.pointer (some ⟨w'.heap.size,0,none⟩),w'.alloc (.cells #[.int .i64 0,.int .i64 0,.slice none 0 0,.slice none 0 0] 34),?_,ZG hfi (fun q' hq'=>hq'.alloc _) hT⟩
             ·(go_simp;try rfl)
           ·as_aux_lemma=>
            intro f w' hall hT;obtain⟨v0,hv0⟩:=cO (hall 0 (by decide));obtain⟨v5,hv5⟩:=cO (hall 5 (by decide));obtain⟨v6,hv6⟩:=cO (hall 6 (by decide));obtain⟨v11,yL⟩:=cO (hall 11 (by decide));obtain⟨v12,l7⟩:=cO (hall 12 (by decide));obtain⟨v13,MN⟩:=cO (hall 13 (by decide));obtain⟨v14,P8⟩:=cO (hall 14 (by decide));obtain⟨q',hp',hq'⟩:=fF.1 hT;obtain⟨rfl,hqn,hqr⟩:=hp'.e12 v12 l7;obtain⟨u,hu,rfl⟩:=hp'.e13 v13 MN;rw[l7] at hu;cases hu;rw[oW hv0,EI P8] at hq';have hq2:=hq'.p2;rw[fP,Sat.ex] at hq2;obtain⟨g,hq2⟩:=hq2;rw[aj] at hq2;obtain⟨rfl,hB⟩:=Sat.fact.1 hq2;obtain⟨⟨qJ,qus,qa,qn,qc⟩,rfl⟩:∃z,z=q':=⟨_,rfl⟩
            dsimp only at hqn hqr hB l7 MN;have yK:Mem.le J5 qJ:=hp'.le;obtain⟨k0,k1,k2,k3⟩:=lH hB;have u0:w'.frozen? ⟨g,0,none⟩=false:=hB.aI 0;have u1:w'.frozen? ⟨g,1,none⟩=false:=hB.aI 1;have u2:w'.frozen? ⟨g,2,none⟩=false:=hB.aI 2;have u3:w'.frozen? ⟨g,3,none⟩=false:=hB.aI 3;have hB2:=RG hB (.int .i64 4) (.int .i64 0) (.slice none 0 0) (.slice qa qn qc);obtain⟨wz,hwz⟩:=aC ((((w'.setCell ⟨g,0,none⟩ (.int .i64 4)).setCell ⟨g,1,none⟩ (.int .i64 0)).setCell ⟨g,2,none⟩ (.slice none 0 0)).setCell ⟨g,3,none⟩ (.slice qa qn qc));rw[←hwz] at hB2;obtain⟨J6,adF,hrl,hB3⟩:=jA hqr (by rw[dM];exact hqn) (show Sat W wz (sep (aT 34 4 qa qn qc qus) (sep (kn qJ) (sep (blk g (.cells #[.int .i64 4,.int .i64 0,.slice none 0 0,.slice qa qn qc] 34 (0,0))) (sep (aT 34 4 b3 m3 d3 vs3) A)))) from dI hB2);have hlen:qn=(fa.parts++fb.parts).length:=by rw[dM];exact hqn
            have HZ:=ah (aH (eG yK adF) (aH hrl (aH hB3 hlen)));have HWZ:=ah hwz;simp only[dB,List.foldl,hv0,hv5,hv6,yL,l7,MN,P8,aU];clear hq' hq2 hB hB2 hwz hqn hqr hrl hB3 hlen yK adF hp' hT hall hv0 hv5 hv6 yL l7 MN P8;simp only[Act.put,Ec,Ed,Ee,Option.bind_some,lsA,lsB,lq]
            (refine J_e rfl rfl (fun K hK=>?_);go_simp)
            rw[←HWZ.out];refine dY ?_;clear hK K;refine mG ?_;refine wM ?_;clear k0 k1 k2 k3 u0 u1 u2 u3;go_wp2;go_meet;case rel=>exact⟨g,qa,qn,qc,J6,rfl,HZ.out.1,by rw[HZ.out.2.2.2];exact jH (by rw[←HZ.out.2.2.2];exact HZ.out.2.1),HZ.out.2.2.1.p1⟩
          case rest=>
           as_aux_lemma=>
           obtain⟨g,pa,pm,pd,J6,rfl,yK,OQ,hSw⟩:=hcut;obtain⟨k0,k1,k2,k3⟩:=lH hSw;have wK:=ah (jR (fC fa fb) 4 0 none 0 0 pa pm pd OQ (by have h1:=EL fa fb;have:=QU.out.2.1;have:=OI.out.2.1;unfold nN;omega) hSw.p1);obtain⟨fe,hfe⟩:=aC (kQ (fC fa fb));rw[←hfe] at wK;have xw:=ah hfe;have KU:=ah (aH yK OQ);clear yK OQ hSw hfe HD;go_wp2_with fail;refine wK.out.mono ?_;rintro e w3 ⟨rfl,h3⟩;clear k0 k1 k2 k3 wK;have H3:=ah (show Sat W w3 (sep (blk g (.cells #[.int .i64 4,.int .i64 0,.slice none 0 0,.slice pa pm pd] 34 (0,0))) (sep (kn J6) (sep (aT 34 4 b3 m3 d3 vs3) A))) from h3.p1);clear h3;by_cases he0:fe=0
           ·subst he0
            obtain⟨k0,k1,k2,k3⟩:=lH H3.out;have oD:=ah (jm w3 [.int .i64 4,.int .i64 0,.slice none 0 0,.slice pa pm pd] 34);have ug:=ah (H3.out.drop.p1.iy (.cells #[.int .i64 4,.int .i64 0,.slice none 0 0,.slice pa pm pd] 34));clear H3;go_upto_region 20 with fail;go_wp2_with (at_builtin;refine aK rfl _ _ 27 rfl 34 4 64 _ Tryz.underlying27 iQ rfl rfl ug.out rfl [.int .i64 4,.int .i64 0,.slice none 0 0,.slice pa pm pd] rfl (by simp) (by intro b' hb;cases hb;exact oD.out) (zf KU.out.2) (by have:=HM3.out;omega) (by unfold maxLen;have:=HM3.out;omega) ?_)
            intro a7 c7 w7 h7;have H7:=ah h7;clear h7 ug oD k0 k1 k2 k3;go_wp2;go_roundw;case rel=>
             have htk:tp.take (ib+1)=tp.take ib++[fb]:=by rw[List.take_add_one,OI.out.1];rfl
             refine⟨ib+1,m3+1,c7,a7,_,J6,rfl,by go_num,by have:=OI.out.2.2;omega,ah ⟨?_,fun i fb' hi hf=>?_,eG tH.out.2.2.1 KU.out.1,?_⟩,H7.out⟩
             ·rw[htk,qy,←kZ,dM,←tH.out.1];rfl
             ·rcases Nat.lt_succ_iff_lt_or_eq.1 hi with hi|rfl
              ·exact tH.out.2.1 i fb' hi hf
              ·rw[OI.out.1] at hf;cases hf;exact xw.out.symm
             ·rw[htk,qy,←kZ]
              exact gQ ((rF.rows 4).mono KU.out.1 tH.out.2.2.2) (jg KU.out.2 rfl)
            case measure=>simp[intOf];have:=OI.out.2.2;omega
           ·have he1:(fe !=0)=true:=by simpa using he0
            have he2:(fe==0)=false:=by simpa using he0
            have HF:Hid (av=none):=ah (by
             rw[HAY.out,xE (mZ QU.out.1) (mZ OI.out.1) (by rw[←xw.out];exact he0)])
            have HL:Hid (Mem.le J J6):=ah (eG (eG (eG SV.out.2.2.2.2.1 pO.out.2.2.1) tH.out.2.2.1) KU.out.1);have HF2:=ah (H3.out.drop.p1.eu);clear he0 H3;go_wp2;refine bodyPost_ret (v:=.tuple #[.slice none 0 0,.bool false]) (by simp[results,Tryz.results221,go_sem]) rfl ?_;exact⟨none,0,0,J6,by rw[HF.out];rfl,HL.out,fun y hy=>(by rw[HF.out] at hy;cases hy),HF2.out⟩
         ·obtain rfl:ib=tn:=by omega
          have OY:=ah hS3;clear hS3 HS2;go_wp2;go_roundw;case rel=>
           have htk:tp.take ib=tp:=List.take_of_length_le (by have:=HT.out.1;omega);have hv3:=tH.out;rw[htk] at hv3;refine⟨ia+1,m3,d3,b3,vs3,J5,y++tp.map (fC fa),rfl,by go_num,by have:=QU.out.2.2;omega,ah ⟨by rw[←kZ];exact hv3.1,AZ QU.out.1 pO.out.2.1 (N7 fun i fb hf=>hv3.2.1 i fb (by have:=(qM hf).1;have:=HT.out.1;omega) hf),eG pO.out.2.2.1 hv3.2.2.1,by rw[←kZ];exact hv3.2.2.2⟩,OY.out⟩
          case measure=>simp[intOf];have:=QU.out.2.2;omega
       ·obtain rfl:ia=xm:=by omega
        have OY:=ah hS2;clear hS2 H2;go_wp2;go_roundw;case rel=>
         have hc:=pO.out.2.1;rw[List.take_of_length_le (by have:=SV.out.1;omega)] at hc;have hay:=HAY.out;rw[hc] at hay;have hm2:m2≤64:=by
          rw[pO.out.1,dM,lF hc,←HMT.out.2,←HV.out.1];have:=H64.out;omega
         exact⟨j+1,m2,d2,b2,vs2,J4,ol++y,rfl,by go_num,by have:=HJ.out.1;omega,hm2,ah ⟨pO.out.1,hay,eG (eG HV.out.2.2.1 SV.out.2.2.2.2.2) pO.out.2.2.1,pO.out.2.2.2⟩,OY.out⟩
        case measure=>simp[intOf];have:=HJ.out.1;omega
   ·obtain rfl:j=nr:=by omega
    have hfin:av=some ol:=by rw[HV.out.2.1];exact AP (by have:=HX.out.2.1;omega)
    obtain⟨J',hle',hr',h'⟩:=jA HV.out.2.2.2 HV.out.1 hS;have HF:=ah (aH hfin (aH (eG wH hle') (aH hr' h')));clear hfin hle' hr' h' hS wH H1;go_wp2;refine bodyPost_ret (v:=.tuple #[.slice bO m d,.bool true]) (by simp[results,Tryz.results221,go_sem]) rfl ?_;exact⟨bO,m,d,J',by rw[HF.out.1];rfl,HF.out.2.1,fun y hy=>(by rw[HF.out.1] at hy;cases hy;exact⟨HV.out.1,HF.out.2.2.1⟩),HF.out.2.2.2⟩
end Go.Proofs.YthfmaclnccdcbaaGreatDoor

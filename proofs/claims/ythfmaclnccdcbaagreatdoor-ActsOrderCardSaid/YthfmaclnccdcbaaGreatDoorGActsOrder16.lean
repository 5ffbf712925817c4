/- Part of a proof. -/
import Derived.Test.YthfmaclnccdcbaaGreatDoorGActsOrder14
namespace Go.Proofs.YthfmaclnccdcbaaGreatDoor
open Go.RowKit PA
theorem JO {W w1:World} {A Bz:aC} {I:Mem} (h:Sat W w1 (sep Bz (sep (kn I) A))) (oc ol oh ov:Obj) (x:Iv) (t:TypeId):
 ∃J,Mem.le I J∧(VB.slice 8).rel J [.slice (some ⟨w1.heap.size+1+1+1,0,none⟩) 1 1] [x]∧Sat W (((((w1.alloc oc).alloc ol).alloc oh).alloc (.cells #[.int .i64 x.ln,.int .i64 x.ld,.int .i64 x.hn,.int .i64 x.hd,.bool x.lo,.bool x.ho,.bool x.li,.bool x.hi] t)).alloc ov) (sep (blk (w1.heap.size+1+1+1+1) ov) (sep (blk w1.heap.size oc) (sep Bz (sep (kn J) A)))):=by
 have h1:=((h.alloc oc).gQ ol).gQ oh;obtain⟨J,hle,hr,h2⟩:=rY (R:=VB) (k:=8) (show Sat W _ (sep (kn I) (sep (blk w1.heap.size oc) (sep Bz A))) from h1.p2) [.int .i64 x.ln,.int .i64 x.ld,.int .i64 x.hn,.int .i64 x.hd,.bool x.lo,.bool x.ho,.bool x.li,.bool x.hi] [x] t (ig rfl rfl) (by simp[maxLen]);simp only[World.size_alloc] at hr;have h3:=h2.alloc ov;simp only[World.size_alloc] at h3;exact⟨J,hle,hr,by simpa only[aA,ay,aj] using h3⟩
attribute [local go_sem ↓] iq
attribute [local go_sem] BL bsFm2
set_option maxRecDepth 100000 in
set_option maxHeartbeats 8000000 in
theorem JQ {W w:World} {A:aC} {I:Mem} (n:Int) (hn:Qo n) (h:Sat W w (sep (kn I) A)):
 Calls Tryz.prog 155 #[.int .i64 n] w fun e w'=>∃f c0 c1 c2 c3 J,e=.returned (.agg #[c0,c1,c2,c3])∧cO f∧Mem.le I J∧rF.rel J [c0,c1,c2,c3] f∧Sat W w' (sep (kn J) A):=by
 obtain⟨kn_,hkn⟩:=aB (fV n 1048576);have hb:=iY n 1048576 (by omega);have HA:=ah (fun w'=>jJ n 1048576 w' hn.1 hn.2 (by omega) (by omega));rw[←hkn] at hb HA;obtain⟨k,rfl⟩:∃k:Nat,kn_=(k:Int):=⟨kn_.toNat,by omega⟩
 have hk:k<1048576:=by omega
 obtain⟨q16,ad6⟩:∃z:Nat,z=k / 16:=⟨_,rfl⟩
 obtain⟨q96,ad7⟩:∃z:Nat,z=k / 96:=⟨_,rfl⟩
 obtain⟨Xj,abP⟩:∃z:Nat,z=k / 480:=⟨_,rfl⟩
 obtain⟨q7,hq7⟩:∃z:Nat,z=k / 7:=⟨_,rfl⟩
 obtain⟨c6,hc6⟩:∃z:Nat,z=q16 % 6:=⟨_,rfl⟩
 obtain⟨v2,hv2⟩:∃z:Nat,z=q16 % 2:=⟨_,rfl⟩
 obtain⟨lo,hlo⟩:∃z:Nat,z=q96 % 5:=⟨_,rfl⟩
 obtain⟨d6,hd6⟩:∃z:Nat,z=q96 % 6:=⟨_,rfl⟩
 obtain⟨h3,hh3⟩:∃z:Nat,z=Xj % 3:=⟨_,rfl⟩
 obtain⟨a3,t10⟩:∃z,(q7:Int).tmod 3=z:=⟨_,rfl⟩
 obtain⟨a4,t11⟩:∃z,(q7:Int).tmod 4=z:=⟨_,rfl⟩
 obtain⟨a5,t12⟩:∃z,(q7:Int).tmod 5=z:=⟨_,rfl⟩
 obtain⟨l3,e3⟩:∃b,(a3==0)=b:=⟨_,rfl⟩
 obtain⟨l4,e4⟩:∃b,(a4==0)=b:=⟨_,rfl⟩
 obtain⟨l5,e5⟩:∃b,(a5==0)=b:=⟨_,rfl⟩
 obtain⟨r16,aea⟩:∃z:Nat,z=k % 16:=⟨_,rfl⟩
 have t1:(k:Int).tdiv 16=(q16:Int):=by rw[Int.tdiv_eq_ediv_of_nonneg (by omega)];omega
 have t2:(k:Int).tdiv 96=(q96:Int):=by rw[Int.tdiv_eq_ediv_of_nonneg (by omega)];omega
 have t3:(k:Int).tdiv 480=(Xj:Int):=by rw[Int.tdiv_eq_ediv_of_nonneg (by omega)];omega
 have t4:(k:Int).tdiv 7=(q7:Int):=by rw[Int.tdiv_eq_ediv_of_nonneg (by omega)];omega
 have t5:(q16:Int).tmod 6=(c6:Int):=by rw[Int.tmod_eq_emod_of_nonneg (by omega)];omega
 have t6:(q16:Int).tmod 2=(v2:Int):=by rw[Int.tmod_eq_emod_of_nonneg (by omega)];omega
 have t7:(q96:Int).tmod 5=(lo:Int):=by rw[Int.tmod_eq_emod_of_nonneg (by omega)];omega
 have t8:(q96:Int).tmod 6=(d6:Int):=by rw[Int.tmod_eq_emod_of_nonneg (by omega)];omega
 have t9:(Xj:Int).tmod 3=(h3:Int):=by rw[Int.tmod_eq_emod_of_nonneg (by omega)];omega
 have t13:(k:Int).tmod 16=(r16:Int):=by rw[Int.tmod_eq_emod_of_nonneg (by omega)];omega
 have ag0:(q16:Int)<65536:=by omega
 have ag1:(q96:Int)<65536:=by omega
 have afg:(Xj:Int)<65536:=by omega
 have bq7:(q7:Int)<262144:=by omega
 have bc6:(c6:Int)<6:=by omega
 have bv2:(v2:Int)<2:=by omega
 have blo:(lo:Int)<5:=by omega
 have bh3:(h3:Int)<3:=by omega
 have bd6:(d6:Int)<6:=by omega
 have br:r16<16:=by omega
 have hsum:(lo:Int)+1+(h3:Int)=((lo+1+h3:Nat):Int):=by omega
 obtain⟨hi,hhi⟩:∃z:Nat,z=lo+1+h3:=⟨_,rfl⟩
 rw[←hhi] at hsum;have bhi:(lo:Int)<hi∧(hi:Int)≤8:=by omega
 have HBH:=ah bhi;obtain⟨B,hB⟩:=aB (w.heap.size);obtain⟨w1,hw1⟩:=aB (w.alloc (.cells #[.int .i64 0,.int .i64 0,.slice none 0 0,.slice none 0 0] 34));have h1:=h.alloc (.cells #[.int .i64 0,.int .i64 0,.slice none 0 0,.slice none 0 0] 34);rw[←hB,←hw1] at h1;have HB:=ah hB;have HW1:=ah hw1;have HS:=ah h1;clear h1 hB hw1 ad6 ad7 abP hq7 hc6 hv2 hlo hd6 hh3 aea hkn hn h hhi hb bhi;have bk:(k:Int)<1048576:=by omega
 clear hk
 go_enter Tryz.func155,Tryz.ntmps155
 go_wp2_with fail
 rw[←HB.out,←HW1.out];refine (HA.out w1).mono ?_;rintro e w2 ⟨rfl,rfl⟩;clear HW1 HB HA
 go_upto_if 51 with (fail)
 go_cut [] (fun wx=>∃(x:Iv) (J:Mem),Bf x∧Mem.le I J∧(VB.slice 8).rel J [.slice (some ⟨w1.heap.size+1+1+1,0,none⟩) 1 1] [x]∧Sat W wx (sep (blk (w1.heap.size+1+1+1+1) (.cells #[.int .i64 2,.int .i64 v2,.slice (some ⟨w1.heap.size+1+1+1,0,none⟩) 1 1,.slice none 0 0] 34 (0,0))) (sep (blk w1.heap.size (.cells #[.int .i64 1,.int .i64 c6,.slice none 0 0,.slice none 0 0] 34 (0,0))) (sep (blk B (.cells #[.int .i64 0,.int .i64 0,.slice none 0 0,.slice none 0 0] 34 (0,0))) (sep (kn J) A)))))
 case first=>
  as_aux_lemma=>
  cases l5 with
  | true=>
   go_wp2
   go_meet
   case rel=>
    obtain⟨J,h1,h2,h3⟩:=JO HS.out (.cells #[.int .i64 1,.int .i64 c6,.slice none 0 0,.slice none 0 0] 34) (.cells #[.int .i64 lo,.int .i64 1] 26) (.cells #[.int .i64 hi,.int .i64 1] 26) (.cells #[.int .i64 2,.int .i64 v2,.slice (some ⟨w1.heap.size+1+1+1,0,none⟩) 1 1,.slice none 0 0] 34) ⟨lo,1,0,0,l3,false,false,true⟩ 159;exact⟨_,J,⟨(by show (0:Int)≤(lo:Int);omega),(by show (lo:Int)≤4;omega),rfl,rfl,.inl ⟨rfl,rfl,rfl,rfl⟩⟩,h1,h2,h3⟩
  | false=>
   go_wp2
   go_meet
   case rel=>
    obtain⟨J,h1,h2,h3⟩:=JO HS.out (.cells #[.int .i64 1,.int .i64 c6,.slice none 0 0,.slice none 0 0] 34) (.cells #[.int .i64 lo,.int .i64 1] 26) (.cells #[.int .i64 hi,.int .i64 1] 26) (.cells #[.int .i64 2,.int .i64 v2,.slice (some ⟨w1.heap.size+1+1+1,0,none⟩) 1 1,.slice none 0 0] 34) ⟨lo,1,hi,1,l3,l4,false,false⟩ 159;exact⟨_,J,⟨(by show (0:Int)≤(lo:Int);omega),(by show (lo:Int)≤4;omega),rfl,rfl,.inr ⟨rfl,rfl,HBH.out.1,HBH.out.2⟩⟩,h1,h2,h3⟩
 case rest=>
  as_aux_lemma=>
  obtain⟨x,J,hx,hle,hrel,hS⟩:=hcut;have hS:=hS;have LC:oG (.mk 1 (c6:Int) [] []):=⟨c6,by omega,by omega,rfl⟩
  have LD:oG (.mk 1 (d6:Int) [] []):=⟨d6,by omega,by omega,rfl⟩
  have LV:zx (.mk 2 (v2:Int) [x] []):=⟨v2,x,by omega,by omega,hx,rfl⟩
  have rC:rF.rel J [.int .i64 1,.int .i64 c6,.slice none 0 0,.slice none 0 0] (.mk 1 (c6:Int) [] []):=AY J 1 c6;have rD:rF.rel J [.int .i64 1,.int .i64 d6,.slice none 0 0,.slice none 0 0] (.mk 1 (d6:Int) [] []):=AY J 1 d6;have rV:rF.rel J [.int .i64 2,.int .i64 v2,.slice (some ⟨w1.heap.size+1+1+1,0,none⟩) 1 1,.slice none 0 0] (.mk 2 (v2:Int) [x] []):=rF_ivs hrel;have c0:wc.cell? ⟨w1.heap.size,0,none⟩=some (.int .i64 1):=hS.p1.cell 0;have c1:wc.cell? ⟨w1.heap.size,1,none⟩=some (.int .i64 c6):=hS.p1.cell 1;have c2:wc.cell? ⟨w1.heap.size,2,none⟩=some (.slice none 0 0):=hS.p1.cell 2;have c3:wc.cell? ⟨w1.heap.size,3,none⟩=some (.slice none 0 0):=hS.p1.cell 3;have v0:wc.cell? ⟨w1.heap.size+1+1+1+1,0,none⟩=some (.int .i64 2):=hS.cell 0;have v1:wc.cell? ⟨w1.heap.size+1+1+1+1,1,none⟩=some (.int .i64 v2):=hS.cell 1;have v3:wc.cell? ⟨w1.heap.size+1+1+1+1,2,none⟩=some (.slice (some ⟨w1.heap.size+1+1+1,0,none⟩) 1 1):=hS.cell 2;have v4:wc.cell? ⟨w1.heap.size+1+1+1+1,3,none⟩=some (.slice none 0 0):=hS.cell 3;have hS2:=hS.forget.forget;have HH:=ah hS2;have jr:=ah hle;have HR:=ah (And.intro LC (And.intro LD (And.intro LV (And.intro rC (And.intro rD rV)))));clear hx hle hrel hS hS2 LC LD LV rC rD rV t3 t4 t9 t10 t11 t12 e3 e4 e5 hsum t1 t5 t6 t7 HS HBH;have hcase:r16=0∨r16=1∨r16=2∨r16=3∨r16=4∨r16=5∨r16=6∨r16=7∨r16=8∨r16=9∨r16=10∨r16=11∨r16=12∨r16=13∨r16=14∨r16=15:=by omega
  clear br;rcases hcase with rfl|rfl|rfl|rfl|rfl|rfl|rfl|rfl|rfl|rfl|rfl|rfl|rfl|rfl|rfl|rfl
  ·as_aux_lemma=>
   replace t13:(k:Int).tmod 16=0:=t13;have H9:=HH.out;have f0:=H9.aH 0;have b0:=H9.cell 0;have f1:=H9.aH 1;have b1:=H9.cell 1;have f2:=H9.aH 2;have b2:=H9.cell 2;have f3:=H9.aH 3;have b3:=H9.cell 3;simp only[CU,CX,CY] at b0 b1 b2 b3;have HF:Hid (cO (.mk 1 (c6:Int) [] [])∧Mem.le I J∧rF.rel J [.int .i64 1,.int .i64 c6,.slice none 0 0,.slice none 0 0] (.mk 1 (c6:Int) [] [])):=ah ⟨cO.c HR.out.1,jr.out,HR.out.2.2.2.1⟩;have H8:=ah H9;clear HH jr HR H9
   go_wp2
   have h7:=(((H8.out.setCell 0 (.int .i64 1)).setCell 1 (.int .i64 c6)).setCell 2 (.slice none 0 0)).setCell 3 (.slice none 0 0);have r0:=h7.cell 0;have r1:=h7.cell 1;have r2:=h7.cell 2;have r3:=h7.cell 3;have H7:=ah h7.forget;clear h7;exact bodyPost_ret (v:=.agg #[.int .i64 1,.int .i64 c6,.slice none 0 0,.slice none 0 0]) (by simp[results,Tryz.results155,go_sem,r0,r1,r2,r3]) rfl ⟨.mk 1 (c6:Int) [] [],_,_,_,_,J,rfl,HF.out.1,HF.out.2.1,HF.out.2.2,H7.out⟩
  ·as_aux_lemma=>
   replace t13:(k:Int).tmod 16=1:=t13;have H9:=HH.out;have f0:=H9.aH 0;have b0:=H9.cell 0;have f1:=H9.aH 1;have b1:=H9.cell 1;have f2:=H9.aH 2;have b2:=H9.cell 2;have f3:=H9.aH 3;have b3:=H9.cell 3;simp only[CU,CX,CY] at b0 b1 b2 b3;have HF:Hid (cO (.mk 1 (c6:Int) [] [])∧Mem.le I J∧rF.rel J [.int .i64 1,.int .i64 c6,.slice none 0 0,.slice none 0 0] (.mk 1 (c6:Int) [] [])):=ah ⟨cO.c HR.out.1,jr.out,HR.out.2.2.2.1⟩;have H8:=ah H9;clear HH jr HR H9
   go_wp2
   have h7:=(((H8.out.setCell 0 (.int .i64 1)).setCell 1 (.int .i64 c6)).setCell 2 (.slice none 0 0)).setCell 3 (.slice none 0 0);have r0:=h7.cell 0;have r1:=h7.cell 1;have r2:=h7.cell 2;have r3:=h7.cell 3;have H7:=ah h7.forget;clear h7;exact bodyPost_ret (v:=.agg #[.int .i64 1,.int .i64 c6,.slice none 0 0,.slice none 0 0]) (by simp[results,Tryz.results155,go_sem,r0,r1,r2,r3]) rfl ⟨.mk 1 (c6:Int) [] [],_,_,_,_,J,rfl,HF.out.1,HF.out.2.1,HF.out.2.2,H7.out⟩
  ·as_aux_lemma=>
   replace t13:(k:Int).tmod 16=2:=t13;have H9:=HH.out;have f0:=H9.aH 0;have b0:=H9.cell 0;have f1:=H9.aH 1;have b1:=H9.cell 1;have f2:=H9.aH 2;have b2:=H9.cell 2;have f3:=H9.aH 3;have b3:=H9.cell 3;simp only[CU,CX,CY] at b0 b1 b2 b3;have HF:Hid (cO (.mk 1 (c6:Int) [] [])∧Mem.le I J∧rF.rel J [.int .i64 1,.int .i64 c6,.slice none 0 0,.slice none 0 0] (.mk 1 (c6:Int) [] [])):=ah ⟨cO.c HR.out.1,jr.out,HR.out.2.2.2.1⟩;have H8:=ah H9;clear HH jr HR H9
   go_wp2
   have h7:=(((H8.out.setCell 0 (.int .i64 1)).setCell 1 (.int .i64 c6)).setCell 2 (.slice none 0 0)).setCell 3 (.slice none 0 0);have r0:=h7.cell 0;have r1:=h7.cell 1;have r2:=h7.cell 2;have r3:=h7.cell 3;have H7:=ah h7.forget;clear h7;exact bodyPost_ret (v:=.agg #[.int .i64 1,.int .i64 c6,.slice none 0 0,.slice none 0 0]) (by simp[results,Tryz.results155,go_sem,r0,r1,r2,r3]) rfl ⟨.mk 1 (c6:Int) [] [],_,_,_,_,J,rfl,HF.out.1,HF.out.2.1,HF.out.2.2,H7.out⟩
  ·as_aux_lemma=>
   replace t13:(k:Int).tmod 16=3:=t13;have H9:=HH.out;have f0:=H9.aH 0;have b0:=H9.cell 0;have f1:=H9.aH 1;have b1:=H9.cell 1;have f2:=H9.aH 2;have b2:=H9.cell 2;have f3:=H9.aH 3;have b3:=H9.cell 3;simp only[CU,CX,CY] at b0 b1 b2 b3;have HF:Hid (cO (.mk 1 (c6:Int) [] [])∧Mem.le I J∧rF.rel J [.int .i64 1,.int .i64 c6,.slice none 0 0,.slice none 0 0] (.mk 1 (c6:Int) [] [])):=ah ⟨cO.c HR.out.1,jr.out,HR.out.2.2.2.1⟩;have H8:=ah H9;clear HH jr HR H9
   go_wp2
   have h7:=(((H8.out.setCell 0 (.int .i64 1)).setCell 1 (.int .i64 c6)).setCell 2 (.slice none 0 0)).setCell 3 (.slice none 0 0);have r0:=h7.cell 0;have r1:=h7.cell 1;have r2:=h7.cell 2;have r3:=h7.cell 3;have H7:=ah h7.forget;clear h7;exact bodyPost_ret (v:=.agg #[.int .i64 1,.int .i64 c6,.slice none 0 0,.slice none 0 0]) (by simp[results,Tryz.results155,go_sem,r0,r1,r2,r3]) rfl ⟨.mk 1 (c6:Int) [] [],_,_,_,_,J,rfl,HF.out.1,HF.out.2.1,HF.out.2.2,H7.out⟩
  ·as_aux_lemma=>
   replace t13:(k:Int).tmod 16=4:=t13;have H9:=HH.out;have f0:=H9.aH 0;have b0:=H9.cell 0;have f1:=H9.aH 1;have b1:=H9.cell 1;have f2:=H9.aH 2;have b2:=H9.cell 2;have f3:=H9.aH 3;have b3:=H9.cell 3;simp only[CU,CX,CY] at b0 b1 b2 b3;have HF:Hid (cO (.mk 2 (v2:Int) [x] [])∧Mem.le I J∧rF.rel J [.int .i64 2,.int .i64 v2,.slice (some ⟨w1.heap.size+1+1+1,0,none⟩) 1 1,.slice none 0 0] (.mk 2 (v2:Int) [x] [])):=ah ⟨cO.v HR.out.2.2.1,jr.out,HR.out.2.2.2.2.2⟩;have H8:=ah H9;clear HH jr HR H9
   go_wp2
   have h7:=(((H8.out.setCell 0 (.int .i64 2)).setCell 1 (.int .i64 v2)).setCell 2 (.slice (some ⟨w1.heap.size+1+1+1,0,none⟩) 1 1)).setCell 3 (.slice none 0 0);have r0:=h7.cell 0;have r1:=h7.cell 1;have r2:=h7.cell 2;have r3:=h7.cell 3;have H7:=ah h7.forget;clear h7;exact bodyPost_ret (v:=.agg #[.int .i64 2,.int .i64 v2,.slice (some ⟨w1.heap.size+1+1+1,0,none⟩) 1 1,.slice none 0 0]) (by simp[results,Tryz.results155,go_sem,r0,r1,r2,r3]) rfl ⟨.mk 2 (v2:Int) [x] [],_,_,_,_,J,rfl,HF.out.1,HF.out.2.1,HF.out.2.2,H7.out⟩
  ·as_aux_lemma=>
   replace t13:(k:Int).tmod 16=5:=t13;have H9:=HH.out;have f0:=H9.aH 0;have b0:=H9.cell 0;have f1:=H9.aH 1;have b1:=H9.cell 1;have f2:=H9.aH 2;have b2:=H9.cell 2;have f3:=H9.aH 3;have b3:=H9.cell 3;simp only[CU,CX,CY] at b0 b1 b2 b3;have HF:Hid (cO (.mk 2 (v2:Int) [x] [])∧Mem.le I J∧rF.rel J [.int .i64 2,.int .i64 v2,.slice (some ⟨w1.heap.size+1+1+1,0,none⟩) 1 1,.slice none 0 0] (.mk 2 (v2:Int) [x] [])):=ah ⟨cO.v HR.out.2.2.1,jr.out,HR.out.2.2.2.2.2⟩;have H8:=ah H9;clear HH jr HR H9
   go_wp2
   have h7:=(((H8.out.setCell 0 (.int .i64 2)).setCell 1 (.int .i64 v2)).setCell 2 (.slice (some ⟨w1.heap.size+1+1+1,0,none⟩) 1 1)).setCell 3 (.slice none 0 0);have r0:=h7.cell 0;have r1:=h7.cell 1;have r2:=h7.cell 2;have r3:=h7.cell 3;have H7:=ah h7.forget;clear h7;exact bodyPost_ret (v:=.agg #[.int .i64 2,.int .i64 v2,.slice (some ⟨w1.heap.size+1+1+1,0,none⟩) 1 1,.slice none 0 0]) (by simp[results,Tryz.results155,go_sem,r0,r1,r2,r3]) rfl ⟨.mk 2 (v2:Int) [x] [],_,_,_,_,J,rfl,HF.out.1,HF.out.2.1,HF.out.2.2,H7.out⟩
  ·as_aux_lemma=>
   replace t13:(k:Int).tmod 16=6:=t13;have H9:=HH.out;have f0:=H9.aH 0;have b0:=H9.cell 0;have f1:=H9.aH 1;have b1:=H9.cell 1;have f2:=H9.aH 2;have b2:=H9.cell 2;have f3:=H9.aH 3;have b3:=H9.cell 3;simp only[CU,CX,CY] at b0 b1 b2 b3;have HF:Hid (cO (.mk 2 (v2:Int) [x] [])∧Mem.le I J∧rF.rel J [.int .i64 2,.int .i64 v2,.slice (some ⟨w1.heap.size+1+1+1,0,none⟩) 1 1,.slice none 0 0] (.mk 2 (v2:Int) [x] [])):=ah ⟨cO.v HR.out.2.2.1,jr.out,HR.out.2.2.2.2.2⟩;have H8:=ah H9;clear HH jr HR H9
   go_wp2
   have h7:=(((H8.out.setCell 0 (.int .i64 2)).setCell 1 (.int .i64 v2)).setCell 2 (.slice (some ⟨w1.heap.size+1+1+1,0,none⟩) 1 1)).setCell 3 (.slice none 0 0);have r0:=h7.cell 0;have r1:=h7.cell 1;have r2:=h7.cell 2;have r3:=h7.cell 3;have H7:=ah h7.forget;clear h7;exact bodyPost_ret (v:=.agg #[.int .i64 2,.int .i64 v2,.slice (some ⟨w1.heap.size+1+1+1,0,none⟩) 1 1,.slice none 0 0]) (by simp[results,Tryz.results155,go_sem,r0,r1,r2,r3]) rfl ⟨.mk 2 (v2:Int) [x] [],_,_,_,_,J,rfl,HF.out.1,HF.out.2.1,HF.out.2.2,H7.out⟩
  ·as_aux_lemma=>
   replace t13:(k:Int).tmod 16=7:=t13;have g1:=HH.out.p1;obtain⟨J1,l1,k1,s1⟩:=rY g1 ([.int .i64 1,.int .i64 c6,.slice none 0 0,.slice none 0 0]++[.int .i64 2,.int .i64 v2,.slice (some ⟨w1.heap.size+1+1+1,0,none⟩) 1 1,.slice none 0 0]) ([.mk 1 (c6:Int) [] [],.mk 2 (v2:Int) [x] []]:List Fm) 34 (nZ HR.out.2.2.2.1 rfl HR.out.2.2.2.2.2 rfl) (by simp[maxLen])
   try simp only[List.cons_append,List.nil_append] at s1
   have H9:=s1.p1;have H9:=H9;have f0:=H9.aH 0;have b0:=H9.cell 0;have f1:=H9.aH 1;have b1:=H9.cell 1;have f2:=H9.aH 2;have b2:=H9.cell 2;have f3:=H9.aH 3;have b3:=H9.cell 3;simp only[CU,CX,CY] at b0 b1 b2 b3;have HF:Hid (cO (.mk 4 0 [] [.mk 1 (c6:Int) [] [],.mk 2 (v2:Int) [x] []])∧Mem.le I J1∧rF.rel J1 [.int .i64 4,.int .i64 0,.slice none 0 0,.slice (some ⟨wc.heap.size,0,none⟩) 2 2] (.mk 4 0 [] [.mk 1 (c6:Int) [] [],.mk 2 (v2:Int) [x] []])):=ah ⟨cO.FB HR.out.1 HR.out.2.2.1,(eG jr.out l1),jm k1⟩;have H8:=ah H9;clear HH jr HR H9 g1 l1 k1 s1
   go_wp2
   have h7:=(((H8.out.setCell 0 (.int .i64 4)).setCell 1 (.int .i64 0)).setCell 2 (.slice none 0 0)).setCell 3 (.slice (some ⟨wc.heap.size,0,none⟩) 2 2);have r0:=h7.cell 0;have r1:=h7.cell 1;have r2:=h7.cell 2;have r3:=h7.cell 3;have H7:=ah h7.forget;clear h7;exact bodyPost_ret (v:=.agg #[.int .i64 4,.int .i64 0,.slice none 0 0,.slice (some ⟨wc.heap.size,0,none⟩) 2 2]) (by simp[results,Tryz.results155,go_sem,r0,r1,r2,r3]) rfl ⟨.mk 4 0 [] [.mk 1 (c6:Int) [] [],.mk 2 (v2:Int) [x] []],_,_,_,_,J1,rfl,HF.out.1,HF.out.2.1,HF.out.2.2,H7.out⟩
  ·as_aux_lemma=>
   replace t13:(k:Int).tmod 16=8:=t13;have g1:=HH.out.p1;obtain⟨J1,l1,k1,s1⟩:=rY g1 ([.int .i64 1,.int .i64 c6,.slice none 0 0,.slice none 0 0]++[.int .i64 2,.int .i64 v2,.slice (some ⟨w1.heap.size+1+1+1,0,none⟩) 1 1,.slice none 0 0]) ([.mk 1 (c6:Int) [] [],.mk 2 (v2:Int) [x] []]:List Fm) 34 (nZ HR.out.2.2.2.1 rfl HR.out.2.2.2.2.2 rfl) (by simp[maxLen])
   try simp only[List.cons_append,List.nil_append] at s1
   have H9:=s1.p1;have H9:=H9;have f0:=H9.aH 0;have b0:=H9.cell 0;have f1:=H9.aH 1;have b1:=H9.cell 1;have f2:=H9.aH 2;have b2:=H9.cell 2;have f3:=H9.aH 3;have b3:=H9.cell 3;simp only[CU,CX,CY] at b0 b1 b2 b3;have HF:Hid (cO (.mk 4 0 [] [.mk 1 (c6:Int) [] [],.mk 2 (v2:Int) [x] []])∧Mem.le I J1∧rF.rel J1 [.int .i64 4,.int .i64 0,.slice none 0 0,.slice (some ⟨wc.heap.size,0,none⟩) 2 2] (.mk 4 0 [] [.mk 1 (c6:Int) [] [],.mk 2 (v2:Int) [x] []])):=ah ⟨cO.FB HR.out.1 HR.out.2.2.1,(eG jr.out l1),jm k1⟩;have H8:=ah H9;clear HH jr HR H9 g1 l1 k1 s1
   go_wp2
   have h7:=(((H8.out.setCell 0 (.int .i64 4)).setCell 1 (.int .i64 0)).setCell 2 (.slice none 0 0)).setCell 3 (.slice (some ⟨wc.heap.size,0,none⟩) 2 2);have r0:=h7.cell 0;have r1:=h7.cell 1;have r2:=h7.cell 2;have r3:=h7.cell 3;have H7:=ah h7.forget;clear h7;exact bodyPost_ret (v:=.agg #[.int .i64 4,.int .i64 0,.slice none 0 0,.slice (some ⟨wc.heap.size,0,none⟩) 2 2]) (by simp[results,Tryz.results155,go_sem,r0,r1,r2,r3]) rfl ⟨.mk 4 0 [] [.mk 1 (c6:Int) [] [],.mk 2 (v2:Int) [x] []],_,_,_,_,J1,rfl,HF.out.1,HF.out.2.1,HF.out.2.2,H7.out⟩
  ·as_aux_lemma=>
   replace t13:(k:Int).tmod 16=9:=t13;have g1:=HH.out.p1;obtain⟨J1,l1,k1,s1⟩:=rY g1 ([.int .i64 1,.int .i64 c6,.slice none 0 0,.slice none 0 0]++[.int .i64 2,.int .i64 v2,.slice (some ⟨w1.heap.size+1+1+1,0,none⟩) 1 1,.slice none 0 0]) ([.mk 1 (c6:Int) [] [],.mk 2 (v2:Int) [x] []]:List Fm) 34 (nZ HR.out.2.2.2.1 rfl HR.out.2.2.2.2.2 rfl) (by simp[maxLen])
   try simp only[List.cons_append,List.nil_append] at s1
   have H9:=s1.p1;have H9:=H9;have f0:=H9.aH 0;have b0:=H9.cell 0;have f1:=H9.aH 1;have b1:=H9.cell 1;have f2:=H9.aH 2;have b2:=H9.cell 2;have f3:=H9.aH 3;have b3:=H9.cell 3;simp only[CU,CX,CY] at b0 b1 b2 b3;have HF:Hid (cO (.mk 5 0 [] [.mk 1 (c6:Int) [] [],.mk 2 (v2:Int) [x] []])∧Mem.le I J1∧rF.rel J1 [.int .i64 5,.int .i64 0,.slice none 0 0,.slice (some ⟨wc.heap.size,0,none⟩) 2 2] (.mk 5 0 [] [.mk 1 (c6:Int) [] [],.mk 2 (v2:Int) [x] []])):=ah ⟨cO.Rj HR.out.1 HR.out.2.2.1,(eG jr.out l1),jm k1⟩;have H8:=ah H9;clear HH jr HR H9 g1 l1 k1 s1
   go_wp2
   have h7:=(((H8.out.setCell 0 (.int .i64 5)).setCell 1 (.int .i64 0)).setCell 2 (.slice none 0 0)).setCell 3 (.slice (some ⟨wc.heap.size,0,none⟩) 2 2);have r0:=h7.cell 0;have r1:=h7.cell 1;have r2:=h7.cell 2;have r3:=h7.cell 3;have H7:=ah h7.forget;clear h7;exact bodyPost_ret (v:=.agg #[.int .i64 5,.int .i64 0,.slice none 0 0,.slice (some ⟨wc.heap.size,0,none⟩) 2 2]) (by simp[results,Tryz.results155,go_sem,r0,r1,r2,r3]) rfl ⟨.mk 5 0 [] [.mk 1 (c6:Int) [] [],.mk 2 (v2:Int) [x] []],_,_,_,_,J1,rfl,HF.out.1,HF.out.2.1,HF.out.2.2,H7.out⟩
  ·as_aux_lemma=>
   replace t13:(k:Int).tmod 16=10:=t13;have g1:=HH.out.p1;obtain⟨J1,l1,k1,s1⟩:=rY g1 ([.int .i64 1,.int .i64 c6,.slice none 0 0,.slice none 0 0]++[.int .i64 2,.int .i64 v2,.slice (some ⟨w1.heap.size+1+1+1,0,none⟩) 1 1,.slice none 0 0]) ([.mk 1 (c6:Int) [] [],.mk 2 (v2:Int) [x] []]:List Fm) 34 (nZ HR.out.2.2.2.1 rfl HR.out.2.2.2.2.2 rfl) (by simp[maxLen])
   try simp only[List.cons_append,List.nil_append] at s1
   have H9:=s1.p1;have H9:=H9;have f0:=H9.aH 0;have b0:=H9.cell 0;have f1:=H9.aH 1;have b1:=H9.cell 1;have f2:=H9.aH 2;have b2:=H9.cell 2;have f3:=H9.aH 3;have b3:=H9.cell 3;simp only[CU,CX,CY] at b0 b1 b2 b3;have HF:Hid (cO (.mk 5 0 [] [.mk 1 (c6:Int) [] [],.mk 2 (v2:Int) [x] []])∧Mem.le I J1∧rF.rel J1 [.int .i64 5,.int .i64 0,.slice none 0 0,.slice (some ⟨wc.heap.size,0,none⟩) 2 2] (.mk 5 0 [] [.mk 1 (c6:Int) [] [],.mk 2 (v2:Int) [x] []])):=ah ⟨cO.Rj HR.out.1 HR.out.2.2.1,(eG jr.out l1),jm k1⟩;have H8:=ah H9;clear HH jr HR H9 g1 l1 k1 s1
   go_wp2
   have h7:=(((H8.out.setCell 0 (.int .i64 5)).setCell 1 (.int .i64 0)).setCell 2 (.slice none 0 0)).setCell 3 (.slice (some ⟨wc.heap.size,0,none⟩) 2 2);have r0:=h7.cell 0;have r1:=h7.cell 1;have r2:=h7.cell 2;have r3:=h7.cell 3;have H7:=ah h7.forget;clear h7;exact bodyPost_ret (v:=.agg #[.int .i64 5,.int .i64 0,.slice none 0 0,.slice (some ⟨wc.heap.size,0,none⟩) 2 2]) (by simp[results,Tryz.results155,go_sem,r0,r1,r2,r3]) rfl ⟨.mk 5 0 [] [.mk 1 (c6:Int) [] [],.mk 2 (v2:Int) [x] []],_,_,_,_,J1,rfl,HF.out.1,HF.out.2.1,HF.out.2.2,H7.out⟩
  ·as_aux_lemma=>
   replace t13:(k:Int).tmod 16=11:=t13;have g1:=HH.out.p1;obtain⟨J1,l1,k1,s1⟩:=rY g1 ([.int .i64 1,.int .i64 c6,.slice none 0 0,.slice none 0 0]++[.int .i64 1,.int .i64 d6,.slice none 0 0,.slice none 0 0]) ([.mk 1 (c6:Int) [] [],.mk 1 (d6:Int) [] []]:List Fm) 34 (nZ HR.out.2.2.2.1 rfl HR.out.2.2.2.2.1 rfl) (by simp[maxLen])
   try simp only[List.cons_append,List.nil_append] at s1
   have H9:=s1.p1;have H9:=H9;have f0:=H9.aH 0;have b0:=H9.cell 0;have f1:=H9.aH 1;have b1:=H9.cell 1;have f2:=H9.aH 2;have b2:=H9.cell 2;have f3:=H9.aH 3;have b3:=H9.cell 3;simp only[CU,CX,CY] at b0 b1 b2 b3;have HF:Hid (cO (.mk 5 0 [] [.mk 1 (c6:Int) [] [],.mk 1 (d6:Int) [] []])∧Mem.le I J1∧rF.rel J1 [.int .i64 5,.int .i64 0,.slice none 0 0,.slice (some ⟨wc.heap.size,0,none⟩) 2 2] (.mk 5 0 [] [.mk 1 (c6:Int) [] [],.mk 1 (d6:Int) [] []])):=ah ⟨cO.UE HR.out.1 HR.out.2.1,(eG jr.out l1),jm k1⟩;have H8:=ah H9;clear HH jr HR H9 g1 l1 k1 s1
   go_wp2
   have h7:=(((H8.out.setCell 0 (.int .i64 5)).setCell 1 (.int .i64 0)).setCell 2 (.slice none 0 0)).setCell 3 (.slice (some ⟨wc.heap.size,0,none⟩) 2 2);have r0:=h7.cell 0;have r1:=h7.cell 1;have r2:=h7.cell 2;have r3:=h7.cell 3;have H7:=ah h7.forget;clear h7;exact bodyPost_ret (v:=.agg #[.int .i64 5,.int .i64 0,.slice none 0 0,.slice (some ⟨wc.heap.size,0,none⟩) 2 2]) (by simp[results,Tryz.results155,go_sem,r0,r1,r2,r3]) rfl ⟨.mk 5 0 [] [.mk 1 (c6:Int) [] [],.mk 1 (d6:Int) [] []],_,_,_,_,J1,rfl,HF.out.1,HF.out.2.1,HF.out.2.2,H7.out⟩
  ·as_aux_lemma=>
   replace t13:(k:Int).tmod 16=12:=t13;have g1:=HH.out.p1;obtain⟨J1,l1,k1,s1⟩:=rY g1 [.int .i64 1,.int .i64 d6,.slice none 0 0,.slice none 0 0] ([.mk 1 (d6:Int) [] []]:List Fm) 34 (ig HR.out.2.2.2.2.1 rfl) (by simp[maxLen])
   try simp only[List.cons_append,List.nil_append] at s1
   have g2:=s1;obtain⟨J2,l2,k2,s2⟩:=rY g2 ([.int .i64 1,.int .i64 c6,.slice none 0 0,.slice none 0 0]++[.int .i64 6,.int .i64 0,.slice none 0 0,.slice (some ⟨wc.heap.size,0,none⟩) 1 1]) ([.mk 1 (c6:Int) [] [],.mk 6 0 [] [.mk 1 (d6:Int) [] []]]:List Fm) 34 (nZ (rF.mono l1 HR.out.2.2.2.1) rfl (jm k1) rfl) (by simp[maxLen]);rw[World.size_alloc] at k2
   try simp only[List.cons_append,List.nil_append] at s2
   have H9:=s2.p1;have H9:=H9;have f0:=H9.aH 0;have b0:=H9.cell 0;have f1:=H9.aH 1;have b1:=H9.cell 1;have f2:=H9.aH 2;have b2:=H9.cell 2;have f3:=H9.aH 3;have b3:=H9.cell 3;simp only[CU,CX,CY] at b0 b1 b2 b3;have HF:Hid (cO (.mk 4 0 [] [.mk 1 (c6:Int) [] [],.mk 6 0 [] [.mk 1 (d6:Int) [] []]])∧Mem.le I J2∧rF.rel J2 [.int .i64 4,.int .i64 0,.slice none 0 0,.slice (some ⟨wc.heap.size+1,0,none⟩) 2 2] (.mk 4 0 [] [.mk 1 (c6:Int) [] [],.mk 6 0 [] [.mk 1 (d6:Int) [] []]])):=ah ⟨cO.Tc HR.out.1 HR.out.2.1,(eG (eG jr.out l1) l2),jm k2⟩;have H8:=ah H9;clear HH jr HR H9 g1 l1 k1 s1 g2 l2 k2 s2
   go_wp2
   have h7:=(((H8.out.setCell 0 (.int .i64 4)).setCell 1 (.int .i64 0)).setCell 2 (.slice none 0 0)).setCell 3 (.slice (some ⟨wc.heap.size+1,0,none⟩) 2 2);have r0:=h7.cell 0;have r1:=h7.cell 1;have r2:=h7.cell 2;have r3:=h7.cell 3;have H7:=ah h7.forget;clear h7;exact bodyPost_ret (v:=.agg #[.int .i64 4,.int .i64 0,.slice none 0 0,.slice (some ⟨wc.heap.size+1,0,none⟩) 2 2]) (by simp[results,Tryz.results155,go_sem,r0,r1,r2,r3]) rfl ⟨.mk 4 0 [] [.mk 1 (c6:Int) [] [],.mk 6 0 [] [.mk 1 (d6:Int) [] []]],_,_,_,_,J2,rfl,HF.out.1,HF.out.2.1,HF.out.2.2,H7.out⟩
  ·as_aux_lemma=>
   replace t13:(k:Int).tmod 16=13:=t13;have g1:=HH.out.p1;obtain⟨J1,l1,k1,s1⟩:=rY g1 [.int .i64 1,.int .i64 c6,.slice none 0 0,.slice none 0 0] ([.mk 1 (c6:Int) [] []]:List Fm) 34 (ig HR.out.2.2.2.1 rfl) (by simp[maxLen])
   try simp only[List.cons_append,List.nil_append] at s1
   have H9:=s1.p1;have H9:=H9;have f0:=H9.aH 0;have b0:=H9.cell 0;have f1:=H9.aH 1;have b1:=H9.cell 1;have f2:=H9.aH 2;have b2:=H9.cell 2;have f3:=H9.aH 3;have b3:=H9.cell 3;simp only[CU,CX,CY] at b0 b1 b2 b3;have HF:Hid (cO (.mk 3 0 [] [.mk 1 (c6:Int) [] []])∧Mem.le I J1∧rF.rel J1 [.int .i64 3,.int .i64 0,.slice none 0 0,.slice (some ⟨wc.heap.size,0,none⟩) 1 1] (.mk 3 0 [] [.mk 1 (c6:Int) [] []])):=ah ⟨cO.part HR.out.1,(eG jr.out l1),jm k1⟩;have H8:=ah H9;clear HH jr HR H9 g1 l1 k1 s1
   go_wp2
   have h7:=(((H8.out.setCell 0 (.int .i64 3)).setCell 1 (.int .i64 0)).setCell 2 (.slice none 0 0)).setCell 3 (.slice (some ⟨wc.heap.size,0,none⟩) 1 1);have r0:=h7.cell 0;have r1:=h7.cell 1;have r2:=h7.cell 2;have r3:=h7.cell 3;have H7:=ah h7.forget;clear h7;exact bodyPost_ret (v:=.agg #[.int .i64 3,.int .i64 0,.slice none 0 0,.slice (some ⟨wc.heap.size,0,none⟩) 1 1]) (by simp[results,Tryz.results155,go_sem,r0,r1,r2,r3]) rfl ⟨.mk 3 0 [] [.mk 1 (c6:Int) [] []],_,_,_,_,J1,rfl,HF.out.1,HF.out.2.1,HF.out.2.2,H7.out⟩
  ·as_aux_lemma=>
   replace t13:(k:Int).tmod 16=14:=t13;have g1:=HH.out.p1;obtain⟨J1,l1,k1,s1⟩:=rY g1 [.int .i64 1,.int .i64 c6,.slice none 0 0,.slice none 0 0] ([.mk 1 (c6:Int) [] []]:List Fm) 34 (ig HR.out.2.2.2.1 rfl) (by simp[maxLen])
   try simp only[List.cons_append,List.nil_append] at s1
   have H9:=s1.p1;have H9:=H9;have f0:=H9.aH 0;have b0:=H9.cell 0;have f1:=H9.aH 1;have b1:=H9.cell 1;have f2:=H9.aH 2;have b2:=H9.cell 2;have f3:=H9.aH 3;have b3:=H9.cell 3;simp only[CU,CX,CY] at b0 b1 b2 b3;have HF:Hid (cO (.mk 3 0 [] [.mk 1 (c6:Int) [] []])∧Mem.le I J1∧rF.rel J1 [.int .i64 3,.int .i64 0,.slice none 0 0,.slice (some ⟨wc.heap.size,0,none⟩) 1 1] (.mk 3 0 [] [.mk 1 (c6:Int) [] []])):=ah ⟨cO.part HR.out.1,(eG jr.out l1),jm k1⟩;have H8:=ah H9;clear HH jr HR H9 g1 l1 k1 s1
   go_wp2
   have h7:=(((H8.out.setCell 0 (.int .i64 3)).setCell 1 (.int .i64 0)).setCell 2 (.slice none 0 0)).setCell 3 (.slice (some ⟨wc.heap.size,0,none⟩) 1 1);have r0:=h7.cell 0;have r1:=h7.cell 1;have r2:=h7.cell 2;have r3:=h7.cell 3;have H7:=ah h7.forget;clear h7;exact bodyPost_ret (v:=.agg #[.int .i64 3,.int .i64 0,.slice none 0 0,.slice (some ⟨wc.heap.size,0,none⟩) 1 1]) (by simp[results,Tryz.results155,go_sem,r0,r1,r2,r3]) rfl ⟨.mk 3 0 [] [.mk 1 (c6:Int) [] []],_,_,_,_,J1,rfl,HF.out.1,HF.out.2.1,HF.out.2.2,H7.out⟩
  ·as_aux_lemma=>
   replace t13:(k:Int).tmod 16=15:=t13;have g1:=HH.out.p1;obtain⟨J1,l1,k1,s1⟩:=rY g1 [.int .i64 2,.int .i64 v2,.slice (some ⟨w1.heap.size+1+1+1,0,none⟩) 1 1,.slice none 0 0] ([.mk 2 (v2:Int) [x] []]:List Fm) 34 (ig HR.out.2.2.2.2.2 rfl) (by simp[maxLen])
   try simp only[List.cons_append,List.nil_append] at s1
   have g2:=s1;obtain⟨J2,l2,k2,s2⟩:=rY g2 ([.int .i64 1,.int .i64 c6,.slice none 0 0,.slice none 0 0]++[.int .i64 3,.int .i64 0,.slice none 0 0,.slice (some ⟨wc.heap.size,0,none⟩) 1 1]) ([.mk 1 (c6:Int) [] [],.mk 3 0 [] [.mk 2 (v2:Int) [x] []]]:List Fm) 34 (nZ (rF.mono l1 HR.out.2.2.2.1) rfl (jm k1) rfl) (by simp[maxLen]);rw[World.size_alloc] at k2
   try simp only[List.cons_append,List.nil_append] at s2
   have H9:=s2.p1;have H9:=H9;have f0:=H9.aH 0;have b0:=H9.cell 0;have f1:=H9.aH 1;have b1:=H9.cell 1;have f2:=H9.aH 2;have b2:=H9.cell 2;have f3:=H9.aH 3;have b3:=H9.cell 3;simp only[CU,CX,CY] at b0 b1 b2 b3;have HF:Hid (cO (.mk 4 0 [] [.mk 1 (c6:Int) [] [],.mk 3 0 [] [.mk 2 (v2:Int) [x] []]])∧Mem.le I J2∧rF.rel J2 [.int .i64 4,.int .i64 0,.slice none 0 0,.slice (some ⟨wc.heap.size+1,0,none⟩) 2 2] (.mk 4 0 [] [.mk 1 (c6:Int) [] [],.mk 3 0 [] [.mk 2 (v2:Int) [x] []]])):=ah ⟨cO.Td HR.out.1 HR.out.2.2.1,(eG (eG jr.out l1) l2),jm k2⟩;have H8:=ah H9;clear HH jr HR H9 g1 l1 k1 s1 g2 l2 k2 s2
   go_wp2
   have h7:=(((H8.out.setCell 0 (.int .i64 4)).setCell 1 (.int .i64 0)).setCell 2 (.slice none 0 0)).setCell 3 (.slice (some ⟨wc.heap.size+1,0,none⟩) 2 2);have r0:=h7.cell 0;have r1:=h7.cell 1;have r2:=h7.cell 2;have r3:=h7.cell 3;have H7:=ah h7.forget;clear h7;exact bodyPost_ret (v:=.agg #[.int .i64 4,.int .i64 0,.slice none 0 0,.slice (some ⟨wc.heap.size+1,0,none⟩) 2 2]) (by simp[results,Tryz.results155,go_sem,r0,r1,r2,r3]) rfl ⟨.mk 4 0 [] [.mk 1 (c6:Int) [] [],.mk 3 0 [] [.mk 2 (v2:Int) [x] []]],_,_,_,_,J2,rfl,HF.out.1,HF.out.2.1,HF.out.2.2,H7.out⟩
end Go.Proofs.YthfmaclnccdcbaaGreatDoor

/- Part of a proof. -/
import Derived.Test.YtgicfogmdfdjmaaGreatDoorGTitleOwners9
namespace Go.Proofs.YtgicfogmdfdjmaaGreatDoor
open Go.RowKit PA
theorem Oz {J:Mem} {g:Nat} {xs:List Value} {t:TypeId} (h:J g=some (.cells xs.toArray t (0,0))):bT (some ⟨g,0,none⟩) xs J:=
 .inr ⟨g,0,_,_,_,rfl,h,fun i u hu=>by rw[Nat.zero_add];simpa using hu⟩
set_option maxRecDepth 100000 in
set_option maxHeartbeats 4000000 in
theorem Fq {W w:World} {A:aH} (h:Sat W w A):
 Calls Tryz.prog 14 #[] w fun e w'=>e=.returned (.bool true)∧Sat W w' A:=by
 obtain⟨I,hk⟩:=h.know
 obtain⟨J,hle,hJ,h1⟩:=(hk.alloc (.cells (bC CJ).toArray 67)).settle.learn
 obtain⟨B,hB⟩:=aG (w.heap.size)
 obtain⟨w1,hw1⟩:=aG (w.alloc (.cells (bC CJ).toArray 67))
 have hsz:w1.heap.size=B+1:=by rw[hw1,World.size_alloc,hB]
 rw[←hB] at hJ
 rw[←hw1] at h1
 have h2:=Aq (E:=81) (k:=3) h1 (fM D9) 2 rfl (by unfold maxLen;omega)
 obtain⟨w2,hw2⟩:=aG (w1.alloc (.cells (fM D9).toArray 81))
 rw[←hw2,hsz] at h2
 have hc:=Oz hJ
 have hsw:Cb (some (⟨B,0,none⟩:Addr)) 3 3:=⟨Nat.le_refl _,by unfold maxLen;omega,fun e=>by cases e⟩
 have HO1:=ah (xq 4 25 Rk ⟨B,0,none⟩ 3 3 CJ rfl (by omega) (by omega) zo Au hsw hc rQ (Rn 25 (by omega) (by omega)) (WJ 25) h2.p1)
 have HB:=ah hB
 have HW1:=ah hw1
 have HW2:=ah hw2
 have Fa:=ah hsz
 have HC:=ah (And.intro hc hsw)
 clear h hk hle hJ h1 hB hw1 h2 hw2 hc hsw hsz
 go_enter Tryz.func14,Tryz.ntmps14
 go_upto_region 2 with (fail)
 rw[←HB.out]
 change Code.wp _ _ _ _ (w.alloc (.cells (bC CJ).toArray 67))
 rw[←HW1.out]
 go_upto_region 3 with (fail)
 rw[Fa.out]
 change Code.wp _ _ _ _ (w1.alloc (.cells (fM D9).toArray 81))
 rw[←HW2.out]
 clear HB HW1 HW2 Fa
 go_wp2_with fail
 refine HO1.out.mono ?_
 rintro e w3 ⟨own,a3,c3,J3,rfl,ho,hle3,h3⟩
 rw[XW] at ho
 obtain rfl:=ho.unique Rl
 have HO2:=ah (xq 4 40 Rk ⟨B,0,none⟩ 3 3 CJ rfl (by omega) (by omega) zo Au HC.out.2 (fQ hle3 HC.out.1) rQ (Rn 40 (by omega) (by omega)) (WJ 40) h3.p1)
 have uw:=ah hle3
 clear HO1 ho h3 hle3
 go_wp2_with fail
 refine HO2.out.mono ?_
 rintro e w4 ⟨own,a5,c5,J5,rfl,ho,Di,h5⟩
 rw[XY] at ho
 obtain rfl:=ho.unique Rl
 have HF:=ah (D8 4 Rk ⟨B,0,none⟩ 3 3 CJ rfl (by omega) (by omega) zo Au HC.out.2 (fQ (Mem.le_trans uw.out Di) HC.out.1) rQ (Rn 131072 (by omega) (by omega)) h5.p1)
 clear HO2 ho h5 Di
 go_wp2_with fail
 refine HF.out.mono ?_
 rintro e w5 ⟨a7,c7,J7,rfl,-,h7⟩
 rw[exF] at h7 ⊢
 have h8:Sat W w5 (sep (aN 80 3 a3 2 c3 (fM D9)) (sep (aN 81 3 (some ⟨B+1,0,none⟩) 2 2 (fM D9)) (sep (aN 80 3 a5 2 c5 (fM D9)) (sep (aN 3 1 a7 1 c7 ([2].map iv)) A)))):=by
  have:=h7.p1.drop
  have h9:Sat W w5 (sep (aN 3 1 a7 1 c7 ([2].map iv)) (sep (aN 80 3 a5 2 c5 (fM D9)) (sep (aN 80 3 a3 2 c3 (fM D9)) (sep (aN 81 3 (some ⟨B+1,0,none⟩) 2 2 (fM D9)) A)))):=this
  simpa only[ay,au,aj] using h9
 have lq:=ah (uy a3 2 c3 D9 rfl (by omega) h8)
 clear HF h7 h8
 go_wp2_with fail
 refine lq.out.mono ?_
 rintro e w6 ⟨a9,c9,rfl,h9⟩
 have Qd:=ah (kX a9 (some ⟨B+1,0,none⟩) 2 2 c9 2 D9 D9 rfl rfl (by omega) (by omega) h9.p2.p1)
 clear lq h9
 go_wp2_with fail
 refine Qd.out.mono ?_
 rintro e w7 ⟨rfl,h10⟩
 have HP2:=ah (uy a5 2 c5 D9 rfl (by omega) h10.p3)
 have hdt:decide (D9=D9)=true:=decide_eq_true rfl
 clear Qd h10
 go_wp2_with fail
 refine HP2.out.mono ?_
 rintro e w8 ⟨a11,c11,rfl,h11⟩
 have HS2:=ah (kX a11 (some ⟨B+1,0,none⟩) 2 2 c11 2 D9 D9 rfl rfl (by omega) (by omega) h11.p3.p1)
 clear HP2 h11
 go_wp2_with fail
 refine HS2.out.mono ?_
 rintro e w9 ⟨rfl,h12⟩
 have h13:=h12.drop.drop.drop.drop.drop
 have Cj:=Aq (E:=3) (k:=1) h13 ([2].map iv) 1 rfl (by unfold maxLen;omega)
 have ZY:=ah (sO a7 (some ⟨w9.heap.size,0,none⟩) c7 1 [2] [2] (Cj.p1))
 clear HS2 h12 h13 Cj
 go_wp2_with fail
 refine ZY.out.mono ?_
 rintro e w10 ⟨rfl,h15⟩
 have XC:=ah h15
 clear h15 ZY
 go_wp2
 go_ret
 exact⟨rfl,XC.out⟩
end Go.Proofs.YtgicfogmdfdjmaaGreatDoor

/- Part of a proof. -/
import Derived.Test.YtgicfogmdfdjmaaGreatDoorGTitleHolds7
namespace Go.Proofs.YtgicfogmdfdjmaaGreatDoor
open Go.RowKit PA
theorem Qw {J:Mem} {g:Nat} {xs:List Value} {t:TypeId} (h:J g=some (.cells xs.toArray t (0,0))):bP (some ⟨g,0,none⟩) xs J:=
 .inr ⟨g,0,_,_,_,rfl,h,fun i u hu=>by rw[Nat.zero_add];simpa using hu⟩
set_option maxRecDepth 100000 in
set_option maxHeartbeats 4000000 in
theorem GY {W w:World} {A:aG} (h:Sat W w A):
 Calls Tryz.prog 14 #[] w fun e w'=>e=.returned (.bool true)∧Sat W w' A:=by
 obtain⟨I,hk⟩:=h.know
 obtain⟨J,hle,hJ,h1⟩:=(hk.alloc (.cells (bI DV).toArray 67)).settle.learn
 obtain⟨B,hB⟩:=aC (w.heap.size)
 obtain⟨w1,hw1⟩:=aC (w.alloc (.cells (bI DV).toArray 67))
 have hsz:w1.heap.size=B+1:=by rw[hw1,World.size_alloc,hB]
 rw[←hB] at hJ
 rw[←hw1] at h1
 have h2:=BJ (E:=81) (k:=3) h1 (iJ Fe) 2 rfl (by unfold maxLen;omega)
 obtain⟨w2,hw2⟩:=aC (w1.alloc (.cells (iJ Fe).toArray 81))
 rw[←hw2,hsz] at h2
 have hc:=Qw hJ
 have hsw:zB (some (⟨B,0,none⟩:Addr)) 3 3:=⟨Nat.le_refl _,by unfold maxLen;omega,fun e=>by cases e⟩
 have HO1:=ah (E8 4 25 UH ⟨B,0,none⟩ 3 3 DV rfl (by omega) (by omega) zZ BL hsw hc sZ (UK 25 (by omega) (by omega)) (Zw 25) h2.p1)
 have HB:=ah hB
 have HW1:=ah hw1
 have HW2:=ah hw2
 have GK:=ah hsz
 have HC:=ah (And.intro hc hsw)
 clear h hk hle hJ h1 hB hw1 h2 hw2 hc hsw hsz
 go_enter Tryz.func14,Tryz.ntmps14
 go_upto_region 2 with (fail)
 rw[←HB.out]
 change Code.wp _ _ _ _ (w.alloc (.cells (bI DV).toArray 67))
 rw[←HW1.out]
 go_upto_region 3 with (fail)
 rw[GK.out]
 change Code.wp _ _ _ _ (w1.alloc (.cells (iJ Fe).toArray 81))
 rw[←HW2.out]
 clear HB HW1 HW2 GK
 go_wp2_with fail
 refine HO1.out.mono ?_
 rintro e w3 ⟨own,a3,c3,J3,rfl,ho,hle3,h3⟩
 rw[aaD] at ho
 obtain rfl:=ho.unique UJ
 have HO2:=ah (E8 4 40 UH ⟨B,0,none⟩ 3 3 DV rfl (by omega) (by omega) zZ BL HC.out.2 (fZ hle3 HC.out.1) sZ (UK 40 (by omega) (by omega)) (Zw 40) h3.p1)
 have vk:=ah hle3
 clear HO1 ho h3 hle3
 go_wp2_with fail
 refine HO2.out.mono ?_
 rintro e w4 ⟨own,a5,c5,J5,rfl,ho,Nq,h5⟩
 rw[aaE] at ho
 obtain rfl:=ho.unique UJ
 have HF:=ah (Qr 4 UH ⟨B,0,none⟩ 3 3 DV rfl (by omega) (by omega) zZ BL HC.out.2 (fZ (Mem.le_trans vk.out Nq) HC.out.1) sZ (UK 131072 (by omega) (by omega)) h5.p1)
 clear HO2 ho h5 Nq
 go_wp2_with fail
 refine HF.out.mono ?_
 rintro e w5 ⟨a7,c7,J7,rfl,-,h7⟩
 rw[exF] at h7 ⊢
 have h8:Sat W w5 (sep (aK 80 3 a3 2 c3 (iJ Fe)) (sep (aK 81 3 (some ⟨B+1,0,none⟩) 2 2 (iJ Fe)) (sep (aK 80 3 a5 2 c5 (iJ Fe)) (sep (aK 3 1 a7 1 c7 ([2].map iv)) A)))):=by
  have:=h7.p1.drop
  have h9:Sat W w5 (sep (aK 3 1 a7 1 c7 ([2].map iv)) (sep (aK 80 3 a5 2 c5 (iJ Fe)) (sep (aK 80 3 a3 2 c3 (iJ Fe)) (sep (aK 81 3 (some ⟨B+1,0,none⟩) 2 2 (iJ Fe)) A)))):=this
  simpa only[ay,au,aj] using h9
 have lU:=ah (BK a3 2 c3 Fe rfl (by omega) h8)
 clear HF h7 h8
 go_wp2_with fail
 refine lU.out.mono ?_
 rintro e w6 ⟨a9,c9,rfl,h9⟩
 have OM:=ah (qx a9 (some ⟨B+1,0,none⟩) 2 2 c9 2 Fe Fe rfl rfl (by omega) (by omega) h9.p2.p1)
 clear lU h9
 go_wp2_with fail
 refine OM.out.mono ?_
 rintro e w7 ⟨rfl,h10⟩
 have HP2:=ah (BK a5 2 c5 Fe rfl (by omega) h10.p3)
 have hdt:decide (Fe=Fe)=true:=decide_eq_true rfl
 clear OM h10
 go_wp2_with fail
 refine HP2.out.mono ?_
 rintro e w8 ⟨a11,c11,rfl,h11⟩
 have HS2:=ah (qx a11 (some ⟨B+1,0,none⟩) 2 2 c11 2 Fe Fe rfl rfl (by omega) (by omega) h11.p3.p1)
 clear HP2 h11
 go_wp2_with fail
 refine HS2.out.mono ?_
 rintro e w9 ⟨rfl,h12⟩
 have h13:=h12.drop.drop.drop.drop.drop
 have DR:=BJ (E:=3) (k:=1) h13 ([2].map iv) 1 rfl (by unfold maxLen;omega)
 have HSI:=ah (uo a7 (some ⟨w9.heap.size,0,none⟩) c7 1 [2] [2] (DR.p1))
 clear HS2 h12 h13 DR
 go_wp2_with fail
 refine HSI.out.mono ?_
 rintro e w10 ⟨rfl,h15⟩
 have H15:=ah h15
 clear h15 HSI
 go_wp2
 go_ret
 exact⟨rfl,H15.out⟩
end Go.Proofs.YtgicfogmdfdjmaaGreatDoor

/- Part of a proof. -/
import Derived.Test.YtgicfogmdfdjmaaGreatDoorGTitleOwners47
namespace PA
open Go Go.RowKit Go.Proofs.YtgicfogmdfdjmaaGreatDoor
theorem PL {L:Nat} {v1 v2 v3:Value} {z2 z3:List Ac} {l:List Int} {J:Mem} (hc:bT (some ⟨L,0,none⟩) [v1,v2,v3,.slice none 0 0] J) (h1:lD J v1 (iG l)) (h2:lD J v2 z2) (h3:lD J v3 (z3++iG l)) (g2:o7 J z2) (g3:o7 J z3) (l2:z2.length≤14) (l3:z3.length≤8):
 ∀i,i<4→∃v xs,Lst L J i v xs∧PG J xs:=by
 have h:=hc
 obtain⟨b,o,e,hcell⟩:=fP hc (by simp)
 cases e
 have hs:(iG l).length≤14:=by rw[Ro];have:=Nj l;omega
 intro i hi
 rcases (show i=0∨i=1∨i=2∨i=3 by omega) with rfl|rfl|rfl|rfl
 ·exact⟨v1,iG l,⟨fun w' he=>hcell w' he 0 v1 rfl,h1,RI l,by omega⟩,RI l,NK l,by omega,EG (Js l)⟩
 ·exact⟨v2,z2,⟨fun w' he=>hcell w' he 1 v2 rfl,h2,KU g2 l2,by omega⟩,KU g2 l2,NJ g2,by omega,Jq g2 l2⟩
 ·refine⟨v3,z3++iG l,⟨fun w' he=>hcell w' he 2 v3 rfl,h3,Nl l g3 l3,by rw[List.length_append];omega⟩,Nl l g3 l3,fun x hx=>?_,by rw[List.length_append];omega,(Jq g3 (by omega)).append (EG (Js l))⟩
  rcases List.mem_append.1 hx with h|h
  ·exact NJ g3 x h
  ·exact NK l x h
 ·have hT:TL []:=⟨fun _ h=>(by cases h),.nil,by simp[jA]⟩
  exact⟨.slice none 0 0,[],⟨fun w' he=>hcell w' he 3 _ rfl,⟨none,0,0,rfl,rfl,⟨Nat.le_refl _,Nat.zero_le _,fun _=>rfl⟩,.inl rfl⟩,hT,by simp⟩,hT,fun _ h=>(by cases h),by simp,⟨[],trivial,fun _ h=>(by cases h)⟩⟩
theorem PN (S:lC) (ks:List Int):(jR S ks).length≤ks.length:=List.length_filterMap_le _ _
theorem TJ (file day:Int) (xs:List Ac):(xZ file day xs).length≤4096:=by
 unfold xZ
 split
 ·unfold oZ
  refine Nat.le_trans (PN _ _) ?_
  rw[List.length_map,List.length_range]
  exact Nat.le_refl _
 ·simp
theorem NR {J:Mem} {B:Nat} {zs:List Int} {t:TypeId} (hJ:J B=some (.cells (zs.map PA.iv).toArray t (0,0))) {w':World} (he:Ext J w') {k:Nat} {z:Int} (hz:zs[k]?=some z):w'.cell? ⟨B,k,none⟩=some (.int .i64 z):=by
 rw[cell_of_row w' B k _ _ _ (he _ _ hJ)]
 simp[hz,PA.iv]
theorem TK {W w:World} {A:aH} {J:Mem} {t:TypeId} (xs ys:List Int) (h:Sat W w (sep (kn J) A)):∃J',Mem.le J J'∧J' w.heap.size=some (.cells (xs.map PA.iv).toArray t (0,0))∧J' (w.heap.size+1)=some (.cells (ys.map PA.iv).toArray t (0,0)) ∧
 Sat W ((w.alloc (.cells (xs.map PA.iv).toArray t)).alloc (.cells (ys.map PA.iv).toArray t)) (sep (kn J') A):=by
 obtain⟨J1,l1,e1,h1⟩:=(h.alloc (.cells (xs.map PA.iv).toArray t)).settle.learn
 obtain⟨J2,l2,e2,h2⟩:=(h1.alloc (.cells (ys.map PA.iv).toArray t)).settle.learn
 rw[World.size_alloc] at e2
 exact⟨J2,Mem.le_trans l1 l2,l2 _ _ e1,e2,h2⟩
end PA
namespace Go.Proofs.YtgicfogmdfdjmaaGreatDoor
open Go.RowKit PA
theorem bs_z6 (w:World) (a b c d e f:Int):(Je 6 #[(0,.int .i64 a),(1,.int .i64 b),(2,.int .i64 c),(3,.int .i64 d),(4,.int .i64 e),(5,.int .i64 f)]).run Tryz.prog w=.ok (.slice (some ⟨w.heap.size,0,none⟩) 6 6) (w.alloc (.cells #[.int .i64 a,.int .i64 b,.int .i64 c,.int .i64 d,.int .i64 e,.int .i64 f] 3)):=by
 obtain⟨i,h1,h2,h3,h4⟩:=info_parts qR
 exact run_buildSlice w 22 3 6 _ _ i _ Tryz.underlying22 h1 h2 (by rw[h3];omega) (by rw[h3];omega) (by rw[h3];kernel_rfl)
theorem bs_z4 (w:World) (a b c d:Int):(Je 4 #[(0,.int .i64 a),(1,.int .i64 b),(2,.int .i64 c),(3,.int .i64 d)]).run Tryz.prog w=.ok (.slice (some ⟨w.heap.size,0,none⟩) 4 4) (w.alloc (.cells #[.int .i64 a,.int .i64 b,.int .i64 c,.int .i64 d] 3)):=by
 obtain⟨i,h1,h2,h3,h4⟩:=info_parts qR
 exact run_buildSlice w 22 3 4 _ _ i _ Tryz.underlying22 h1 h2 (by rw[h3];omega) (by rw[h3];omega) (by rw[h3];kernel_rfl)
theorem bs_z3 (w:World) (a b c:Int):(Je 3 #[(0,.int .i64 a),(1,.int .i64 b),(2,.int .i64 c)]).run Tryz.prog w=.ok (.slice (some ⟨w.heap.size,0,none⟩) 3 3) (w.alloc (.cells #[.int .i64 a,.int .i64 b,.int .i64 c] 3)):=by
 obtain⟨i,h1,h2,h3,h4⟩:=info_parts qR
 exact run_buildSlice w 22 3 3 _ _ i _ Tryz.underlying22 h1 h2 (by rw[h3];omega) (by rw[h3];omega) (by rw[h3];kernel_rfl)
attribute [local go_sem ↓] qU
attribute [local go_sem] bs_z6 bs_z4
set_option maxRecDepth 100000 in
set_option maxHeartbeats 16000000 in
theorem titleOwners_walk (a0:Option Addr) (len0 cap0:Nat) (z0:List Int) (a1:Option Addr) (len1 cap1:Nat) (z1:List Int) (a2 a3:Int) (w:World) (_hW:WholeOK w)
 (w0:P5 w a0 len0 cap0 z0) (w1:P5 w a1 len1 cap1 z1) (w2:(Lit.int .i64 a2).wf=true) (w3:(Lit.int .i64 a3).wf=true):
 Calls Tryz.prog 3 #[.slice a0 len0 cap0,.slice a1 len1 cap1,.int .i64 a2,.int .i64 a3] w fun e w'=>e=.returned (.bool true)∧Below w.heap.size w w':=by
 obtain⟨l,rfl,hr0,h64⟩:=argI w0
 obtain⟨m,rfl,hr1,h65⟩:=argI w1
 have i2:=wK w2
 have i3:=wK w3
 have hsc:=FD (.slice a0 l.length cap0) (.slice a1 m.length cap1) l m ⟨⟨_,_,rfl⟩,hr0,h64⟩ ⟨⟨_,_,rfl⟩,hr1,h65⟩ (Sat.Um w)
 obtain⟨x0,hx0⟩:∃x:Nat,iy a2 4=(x:Int):=⟨(iy a2 4).toNat,by have:=iL a2 4 (by omega);omega⟩
 obtain⟨x1,hx1⟩:∃x:Nat,iy a3 45=(x:Int):=⟨(iy a3 45).toNat,by have:=iL a3 45 (by omega);omega⟩
 obtain⟨x2,hx2⟩:∃x:Nat,iy a3 2000=(x:Int):=⟨(iy a3 2000).toNat,by have:=iL a3 2000 (by omega);omega⟩
 have hb0:(x0:Int)<4:=by have:=iL a2 4 (by omega);omega
 have hb1:(x1:Int)<45:=by have:=iL a3 45 (by omega);omega
 have hb2:(x2:Int)<2000:=by have:=iL a3 2000 (by omega);omega
 have HA0:Hid (∀w',Calls Tryz.prog 6 #[.int .i64 a2,.int .i64 4] w' fun e w''=>e=.returned (.int .i64 (x0:Int))∧w'=w''):=ah (fun w'=>by rw[←hx0];exact kK a2 4 w' i2.1 i2.2 (by omega) (by omega))
 have HA1:Hid (∀w',Calls Tryz.prog 6 #[.int .i64 a3,.int .i64 45] w' fun e w''=>e=.returned (.int .i64 (x1:Int))∧w'=w''):=ah (fun w'=>by rw[←hx1];exact kK a3 45 w' i3.1 i3.2 (by omega) (by omega))
 have HA2:Hid (∀w',Calls Tryz.prog 6 #[.int .i64 a3,.int .i64 2000] w' fun e w''=>e=.returned (.int .i64 (x2:Int))∧w'=w''):=ah (fun w'=>by rw[←hx2];exact kK a3 2000 w' i3.1 i3.2 (by omega) (by omega))
 obtain⟨va,hva⟩:=aG (Value.slice a0 l.length cap0)
 obtain⟨vb,hvb⟩:=aG (Value.slice a1 m.length cap1)
 rw[←hva,←hvb] at hsc ⊢
 have V5:=ah hsc
 clear w0 w1 w2 w3 hr0 hr1 h64 h65 _hW hsc hx0 hx1 hx2 hva hvb i2 i3
 go_enter Tryz.func3,Tryz.ntmps3
 go_wp2_with fail
 refine V5.out.mono ?_
 rintro e w1 ⟨L,v1,v2,v3,z2,z3,J,rfl,hle,hc,h1,h2,h3,g2,g3,l2,l3,hS⟩
 have HL:=ah (PL hc h1 h2 h3 g2 g3 l2 l3)
 have HS:=ah hS
 clear hc h1 h2 h3 g2 g3 l2 l3 hS V5 hle
 go_wp2_with fail
 go_loopw [10] (fun iv wr=>∃(i:Nat) (J1:Mem),iv=.int .i64 i∧i≤4∧Mem.le J J1∧Sat w wr (sep (kn J1) emp)) (fun iv _=>5-(intOf iv).toNat)
 case atStart=>exact⟨0,J,rfl,by omega,Mem.le_refl _,HS.out⟩
 case round=>
  obtain⟨i,J1,rfl,hi4,hle1,hS1⟩:=hrel
  by_cases hlt:i<4
  ·as_aux_lemma=>
   have hltz:(i:Int)<4:=by omega
   obtain⟨v,xs,hL,hR⟩:=HL.out i hlt
   obtain⟨J2,hle2,e1,e2,h2⟩:=TK (t:=3) [a2,2,7,0,5*(x0:Int),4095] [a3,95+(x1:Int),36000+(x2:Int),131072] hS1
   obtain⟨FB,hFB⟩:=aG (wr.heap.size)
   obtain⟨w2,hw2⟩:=aG ((wr.alloc (.cells ([a2,2,7,0,5*(x0:Int),4095].map PA.iv).toArray 3)).alloc (.cells ([a3,95+(x1:Int),36000+(x2:Int),131072].map PA.iv).toArray 3))
   rw[←hFB] at e1 e2
   rw[←hw2] at h2
   have HW2:Hid (FB=wr.heap.size∧w2=(wr.alloc (.cells #[.int .i64 a2,.int .i64 2,.int .i64 7,.int .i64 0,.int .i64 (5*(x0:Int)),.int .i64 4095] 3)).alloc (.cells #[.int .i64 a3,.int .i64 (95+(x1:Int)),.int .i64 (36000+(x2:Int)),.int .i64 131072] 3)):=ah ⟨hFB,hw2⟩
   have YV:Hid (∀w',Ext J2 w'→∀k z,([a2,2,7,0,5*(x0:Int),4095]:List Int)[k]?=some z→w'.cell? ⟨FB,k,none⟩=some (.int .i64 z)):=ah fun w' he k z hz=>NR e1 he hz
   have HDZ:Hid (∀w',Ext J2 w'→∀k z,([a3,95+(x1:Int),36000+(x2:Int),131072]:List Int)[k]?=some z→w'.cell? ⟨FB+1,k,none⟩=some (.int .i64 z)):=ah fun w' he k z hz=>NR e2 he hz
   have Iw:=ah (And.intro (hL.mono (Mem.le_trans hle1 hle2)) (And.intro (hR.mono (Mem.le_trans hle1 hle2)) (Mem.le_trans hle1 hle2)))
   have H2:=ah h2
   have HI:=ah hlt
   clear hL hR e1 e2 hFB hw2 h2 hle1 hle2 hS1 HS HL hi4 hlt
   go_wp2_with fail
   refine (HA0.out _).mono ?_
   rintro e w3 ⟨rfl,rfl⟩
   go_wp2_with fail
   refine (HA1.out _).mono ?_
   rintro e w3 ⟨rfl,rfl⟩
   go_wp2_with fail
   refine (HA2.out _).mono ?_
   rintro e w3 ⟨rfl,rfl⟩
   go_upto_region 7 with (fail)
   rw[←HW2.out.2,←HW2.out.1]
   go_wp2_with fail
   clear HW2
   go_loopw [13] (fun kv wr=>∃(k:Nat) (J3:Mem),kv=.int .i64 k∧k≤6∧Mem.le J2 J3∧Sat w wr (sep (kn J3) emp)) (fun kv _=>7-(intOf kv).toNat)
   case atStart=>exact⟨0,J2,rfl,by omega,Mem.le_refl _,H2.out⟩
   case round=>
    obtain⟨k,J3,rfl,hk,hle3,hS⟩:=hrel
    clear H2
    by_cases hlt:k<6
    ·as_aux_lemma=>
     have hkz:(k:Int)<6:=by omega
     have hi4:(i:Int)<4:=by have:=HI.out;omega
     obtain⟨fz,hfz⟩:∃z,([a2,2,7,0,5*(x0:Int),4095]:List Int)[k]?=some z:=⟨_,List.getElem?_eq_getElem (by simpa using hlt)⟩
     have hd:=hS.drew
     obtain⟨wd,hwd⟩:=aG (wr.drew)
     rw[←hwd] at hd
     have mD:=ah hwd
     have cf:=YV.out wd (jm hle3 hd.ext) k fz hfz
     have hL3:=Iw.out.1.mono hle3
     have cl:=hL3.1 wd hd.ext
     have Uc:=ah (KT fz v xs (hL3.2.2.1.ok hL3.2.2.2) hL3.2.1 hd)
     have HK:=ah (And.intro hlt (And.intro hle3 hfz))
     obtain⟨er,her⟩:=aG (aP fz 131072 (sortK xs))
     have HER:=ah her
     rw[←her] at Uc
     clear hwd hd hL3 hfz hlt hk hle3 her hS
     go_upto_region 10 with (fail)
     refine aB rfl (fun _=>True) [(0,.p),(1,.p),(2,.p),(3,.t),(4,.p),(5,.p),(6,.p),(7,.t),(8,.e false),(9,.p),(10,.p),(11,.p),(12,.p),(13,.p)] (by kernel_rfl) ?_
     have hS0:True:=trivial
     rw[←mD.out]
     (repeat ((first|(refine eX (v:=?_) rfl rfl (fun w'=>?_) ?_;rotate_left;(go_simp;with_reducible rfl))|(refine eY (v:=?_) rfl rfl hS0 (fun w' hS=>?_) ?_;rotate_left;((try dsimp only at hS);go_simp;with_reducible rfl))|(refine fA (v:=?_) rfl rfl ?_ ?_;rotate_left;(go_simp;with_reducible rfl))|(refine bH rfl rfl ?_)|(refine bI rfl rfl hS0 ?_)|(refine bJ rfl rfl ?_));simp only[Act.put,lsA,lsB,bK]))
     (refine jc rfl rfl (fun K hK=>?_);go_simp)
     refine Uc.out.mono ?_
     rintro e w3 ⟨fa,fc,J4,rfl,pR,h3⟩
     (refine hK _ _ (fun h=>by cases h) ?_;clear hK K;(try simp only[Act.put,lsA,lsB,bK]))
     (repeat ((first|(refine eX (v:=?_) rfl rfl (fun w'=>?_) ?_;rotate_left;(go_simp;with_reducible rfl))|(refine eY (v:=?_) rfl rfl hS0 (fun w' hS=>?_) ?_;rotate_left;((try dsimp only at hS);go_simp;with_reducible rfl))|(refine fA (v:=?_) rfl rfl ?_ ?_;rotate_left;(go_simp;with_reducible rfl))|(refine bH rfl rfl ?_)|(refine bI rfl rfl hS0 ?_)|(refine bJ rfl rfl ?_));simp only[Act.put,lsA,lsB,bK]))
     refine bM ?_
     clear cf cl Uc mD
     have hd:=h3.drew
     obtain⟨wd,hwd⟩:=aG (w3.drew)
     rw[←hwd] at hd
     have mD:=ah hwd
     have hd1:Sat w wd (sep (kn J4) (sep (aN 3 1 fa (iD fz xs).length fc ((iD fz xs).map PA.iv)) emp)):=by simpa only[ay,au,aj] using hd
     have cf:=YV.out wd (jm (Mem.le_trans HK.out.2.1 pR) hd1.ext) k fz HK.out.2.2
     have hL4:=Iw.out.1.mono (Mem.le_trans HK.out.2.1 pR)
     have cl:=hL4.1 wd hd1.ext
     have RV:=ah (Gy fz v xs (Iw.out.2.1.mono (Mem.le_trans HK.out.2.1 pR)) hL4.2.1 hd1)
     rw[←HER.out] at RV
     obtain⟨ff,hff⟩:=aG (iD fz xs)
     rw[←hff] at RV
     rw[←hff]
     have adk:=ah pR
     obtain⟨nf,hnf⟩:=aG (ff.length)
     have HNF:=ah hnf
     rw[←hnf] at RV
     rw[←hnf]
     clear h3 hd hd1 hwd hL4 pR hff hnf
     go_upto_region 11 with (fail)
     refine aB rfl (fun _=>True) [(0,.p),(1,.p),(2,.p),(3,.t),(4,.p),(5,.p),(6,.p),(7,.t),(8,.e false),(9,.p),(10,.p),(11,.p),(12,.p),(13,.p)] (by kernel_rfl) ?_
     have hS0:True:=trivial
     rw[←mD.out]
     (repeat ((first|(refine eX (v:=?_) rfl rfl (fun w'=>?_) ?_;rotate_left;(go_simp;with_reducible rfl))|(refine eY (v:=?_) rfl rfl hS0 (fun w' hS=>?_) ?_;rotate_left;((try dsimp only at hS);go_simp;with_reducible rfl))|(refine fA (v:=?_) rfl rfl ?_ ?_;rotate_left;(go_simp;with_reducible rfl))|(refine bH rfl rfl ?_)|(refine bI rfl rfl hS0 ?_)|(refine bJ rfl rfl ?_));simp only[Act.put,lsA,lsB,bK]))
     (refine jc rfl rfl (fun K hK=>?_);go_simp)
     refine RV.out.mono ?_
     rintro e w4 ⟨ga,gc,J5,rfl,Di,h5⟩
     (refine hK _ _ (fun h=>by cases h) ?_;clear hK K;(try simp only[Act.put,lsA,lsB,bK]))
     (repeat ((first|(refine eX (v:=?_) rfl rfl (fun w'=>?_) ?_;rotate_left;(go_simp;with_reducible rfl))|(refine eY (v:=?_) rfl rfl hS0 (fun w' hS=>?_) ?_;rotate_left;((try dsimp only at hS);go_simp;with_reducible rfl))|(refine fA (v:=?_) rfl rfl ?_ ?_;rotate_left;(go_simp;with_reducible rfl))|(refine bH rfl rfl ?_)|(refine bI rfl rfl hS0 ?_)|(refine bJ rfl rfl ?_));simp only[Act.put,lsA,lsB,bK]))
     refine bM ?_
     clear cf cl RV mD hS0
     have hbe:(er !=er)=false:=by simp
     have ZY:Hid (Calls Tryz.prog 9 #[.slice fa nf fc,.slice ga nf gc] w4 fun e w'=>e=.returned (.bool true)∧Sat w w' (sep (kn J5) emp)):=ah (by
      rw[HNF.out]
      refine (sO fa ga fc gc ff ff (A:=sep (kn J5) emp) (by rw[←HNF.out];simpa only[ay,au,aj] using h5)).mono ?_
      rintro e w' ⟨rfl,h6⟩
      exact⟨by simp,h6⟩)
     have adl:=ah Di
     clear h5 Di
     go_wp2_with fail
     refine ZY.out.mono ?_
     rintro e w5 ⟨rfl,h6⟩
     have H6:=ah h6
     clear h6 ZY hbe
     go_wp2_with fail
     go_loopw [18] (fun jv wr=>∃(j:Nat) (J6:Mem),jv=.int .i64 j∧j≤4∧Mem.le J5 J6∧Sat w wr (sep (kn J6) emp)) (fun jv _=>5-(intOf jv).toNat)
     case atStart=>exact⟨0,J5,rfl,by omega,Mem.le_refl _,H6.out⟩
     case round=>
      obtain⟨j,J6,rfl,hj,xE,hS⟩:=hrel
      clear H6
      have BZ:Mem.le J2 J6:=Mem.le_trans HK.out.2.1 (Mem.le_trans adk.out (Mem.le_trans adl.out xE))
      by_cases hjl:j<4
      ·as_aux_lemma=>
       have hjz:(j:Int)<4:=by omega
       obtain⟨dz,hdz⟩:∃z,([a3,95+(x1:Int),36000+(x2:Int),131072]:List Int)[j]?=some z:=⟨_,List.getElem?_eq_getElem (by simpa using hjl)⟩
       have hd:=hS.drew
       obtain⟨wd,hwd⟩:=aG (wr.drew)
       rw[←hwd] at hd
       have mD:=ah hwd
       have cf:=YV.out wd (jm BZ hd.ext) k fz HK.out.2.2
       have cd:=HDZ.out wd (jm BZ hd.ext) j dz hdz
       have hL6:=Iw.out.1.mono BZ
       have cl:=hL6.1 wd hd.ext
       have Y0:=ah (KR fz dz v xs (hL6.2.2.1.ok hL6.2.2.2) hL6.2.1 hd)
       have HJ:=ah (And.intro hjl (And.intro xE (And.intro BZ hdz)))
       obtain⟨eo,heo⟩:=aG (aP fz dz (sortK xs))
       have HEO:=ah heo
       rw[←heo] at Y0
       clear hwd hd hL6 hdz hjl hj xE BZ heo hS
       go_upto_region 17 with (fail)
       refine aB rfl (fun _=>True) [(0,.p),(1,.p),(2,.p),(3,.t),(4,.p),(5,.p),(6,.p),(7,.t),(8,.p),(9,.p),(10,.p),(11,.t),(12,.e false),(13,.p),(14,.p),(15,.p),(16,.p),(17,.p)] (by kernel_rfl) ?_
       have hS0:True:=trivial
       rw[←mD.out]
       (repeat ((first|(refine eX (v:=?_) rfl rfl (fun w'=>?_) ?_;rotate_left;(go_simp;with_reducible rfl))|(refine eY (v:=?_) rfl rfl hS0 (fun w' hS=>?_) ?_;rotate_left;((try dsimp only at hS);go_simp;with_reducible rfl))|(refine fA (v:=?_) rfl rfl ?_ ?_;rotate_left;(go_simp;with_reducible rfl))|(refine bH rfl rfl ?_)|(refine bI rfl rfl hS0 ?_)|(refine bJ rfl rfl ?_));simp only[Act.put,lsA,lsB,bK]))
       (refine jc rfl rfl (fun K hK=>?_);go_simp)
       refine Y0.out.mono ?_
       rintro e w7 ⟨own,oa,oc,J7,rfl,hown,FH,h7⟩
       (refine hK _ _ (fun h=>by cases h) ?_;clear hK K;(try simp only[Act.put,lsA,lsB,bK]))
       (repeat ((first|(refine eX (v:=?_) rfl rfl (fun w'=>?_) ?_;rotate_left;(go_simp;with_reducible rfl))|(refine eY (v:=?_) rfl rfl hS0 (fun w' hS=>?_) ?_;rotate_left;((try dsimp only at hS);go_simp;with_reducible rfl))|(refine fA (v:=?_) rfl rfl ?_ ?_;rotate_left;(go_simp;with_reducible rfl))|(refine bH rfl rfl ?_)|(refine bI rfl rfl hS0 ?_)|(refine bJ rfl rfl ?_));simp only[Act.put,lsA,lsB,bK]))
       refine bM ?_
       clear cf cl cd Y0 mD
       have hoT:=V4 Iw.out.1.2.2.1 hown
       have hol:own.length≤4096:=by rw[hoT];exact TJ fz dz xs
       have hd:=h7.drew
       obtain⟨wd,hwd⟩:=aG (w7.drew)
       rw[←hwd] at hd
       have mD:=ah hwd
       have hd1:Sat w wd (sep (kn J7) (sep (aN 80 3 oa own.length oc (fM own)) emp)):=by simpa only[ay,au,aj] using hd
       have Jt:=Mem.le_trans HJ.out.2.2.1 FH
       have cf:=YV.out wd (jm Jt hd1.ext) k fz HK.out.2.2
       have cd:=HDZ.out wd (jm Jt hd1.ext) j dz HJ.out.2.2.2
       have hL7:=Iw.out.1.mono Jt
       have cl:=hL7.1 wd hd1.ext
       have hro:=Gz fz dz v xs (Iw.out.2.1.mono Jt) hL7.2.1 hd1
       rw[show xZ fz dz xs=own from hoT.symm,←HEO.out] at hro
       obtain⟨no,hno⟩:=aG (own.length)
       rw[←hno] at hro hol
       rw[←hno]
       have HRO:=ah hro
       have W9:=ah (And.intro hno hol)
       have ado:=ah FH
       clear h7 hd hd1 hwd Jt hL7 FH hown hoT hol hro hno
       go_upto_region 18 with (fail)
       refine aB rfl (fun _=>True) [(0,.p),(1,.p),(2,.p),(3,.t),(4,.p),(5,.p),(6,.p),(7,.t),(8,.p),(9,.p),(10,.p),(11,.t),(12,.e false),(13,.p),(14,.p),(15,.p),(16,.p),(17,.p)] (by kernel_rfl) ?_
       have hS0:True:=trivial
       rw[←mD.out]
       (repeat ((first|(refine eX (v:=?_) rfl rfl (fun w'=>?_) ?_;rotate_left;(go_simp;with_reducible rfl))|(refine eY (v:=?_) rfl rfl hS0 (fun w' hS=>?_) ?_;rotate_left;((try dsimp only at hS);go_simp;with_reducible rfl))|(refine fA (v:=?_) rfl rfl ?_ ?_;rotate_left;(go_simp;with_reducible rfl))|(refine bH rfl rfl ?_)|(refine bI rfl rfl hS0 ?_)|(refine bJ rfl rfl ?_));simp only[Act.put,lsA,lsB,bK]))
       (refine jc rfl rfl (fun K hK=>?_);go_simp)
       refine HRO.out.mono ?_
       rintro e w8 ⟨ra,rc,J8,rfl,aaR,h8⟩
       (refine hK _ _ (fun h=>by cases h) ?_;clear hK K;(try simp only[Act.put,lsA,lsB,bK]))
       (repeat ((first|(refine eX (v:=?_) rfl rfl (fun w'=>?_) ?_;rotate_left;(go_simp;with_reducible rfl))|(refine eY (v:=?_) rfl rfl hS0 (fun w' hS=>?_) ?_;rotate_left;((try dsimp only at hS);go_simp;with_reducible rfl))|(refine fA (v:=?_) rfl rfl ?_ ?_;rotate_left;(go_simp;with_reducible rfl))|(refine bH rfl rfl ?_)|(refine bI rfl rfl hS0 ?_)|(refine bJ rfl rfl ?_));simp only[Act.put,lsA,lsB,bK]))
       refine bM ?_
       clear cf cl cd HRO mD hS0
       have hbe:(eo !=eo)=false:=by simp
       have PO:=ah (uy oa no oc own W9.out.1.symm (by have:=W9.out.2;omega) (A:=sep (aN 81 3 ra no rc (fM own)) (sep (kn J8) emp)) (by simpa only[ay,au,aj] using h8))
       have adp:=ah aaR
       clear h8 aaR
       go_wp2_with fail
       refine PO.out.mono ?_
       rintro e w9 ⟨pa,pc,rfl,h9⟩
       have iK:=ah (kX pa ra no no pc rc own own W9.out.1.symm W9.out.1.symm (by have:=W9.out.2;omega) (by have:=W9.out.2;omega) (A:=sep (aN 80 3 oa no oc (fM own)) (sep (kn J8) emp)) (by simpa only[ay,au,aj] using h9))
       have hdd:decide (own=own)=true:=by simp
       rw[hdd] at iK
       clear h9 PO hdd
       go_wp2_with fail
       refine iK.out.mono ?_
       rintro e w10 ⟨rfl,h10⟩
       have pJ:Hid (Sat w w10 (sep (kn J8) emp)):=ah h10.dh.dh.dh
       clear h10 iK hbe
       go_wp2
       go_roundw
       case rel=>exact⟨j+1,J8,by go_num,by have:=HJ.out.1;omega,Mem.le_trans HJ.out.2.1 (Mem.le_trans ado.out adp.out),pJ.out⟩
       case measure=>simp[intOf];have:=HJ.out.1;omega
      ·have hjz:¬(j:Int)<4:=by omega
       have HS:=ah (And.intro BZ hS)
       clear hjl hj xE BZ hS
       go_wp2
       go_roundw
       case rel=>exact⟨k+1,J6,by go_num,by have:=HK.out.1;omega,HS.out.1,HS.out.2⟩
       case measure=>simp[intOf];have:=HK.out.1;omega
    ·have hkz:¬(k:Int)<6:=by omega
     have HS:=ah (And.intro hle3 hS)
     clear hlt hk hle3 hS
     go_wp2
     go_roundw
     case rel=>exact⟨i+1,J3,by go_num,by have:=HI.out;omega,Mem.le_trans Iw.out.2.2 HS.out.1,HS.out.2⟩
     case measure=>simp[intOf];have:=HI.out;omega
  ·have hltz:¬(i:Int)<4:=by omega
   have HLV:=ah (Fq hS1)
   clear hlt hi4
   go_wp2_with fail
   refine HLV.out.mono ?_
   rintro e w3 ⟨rfl,h3⟩
   go_wp2
   go_ret
   exact⟨rfl,h3.below⟩
end Go.Proofs.YtgicfogmdfdjmaaGreatDoor

/- Part of a proof. -/
import Derived.Test.YtgicfogmdfdjmaaGreatDoorGTitleHolds47
import Derived.Test.YtgicfogmdfdjmaaGreatDoorGTitleHolds48
namespace PA
open Go Go.RowKit Go.Proofs.YtgicfogmdfdjmaaGreatDoor
theorem OB {W w:World} {A:aG} {J:Mem} {t:TypeId} (xs ys zs:List Int) (h:Sat W w (sep (kn J) A)):∃J',Mem.le J J'∧J' w.heap.size=some (.cells (xs.map PA.iv).toArray t (0,0))∧J' (w.heap.size+1)=some (.cells (ys.map PA.iv).toArray t (0,0))∧J' (w.heap.size+2)=some (.cells (zs.map PA.iv).toArray t (0,0)) ∧
 Sat W (((w.alloc (.cells (xs.map PA.iv).toArray t)).alloc (.cells (ys.map PA.iv).toArray t)).alloc (.cells (zs.map PA.iv).toArray t)) (sep (kn J') A):=by
 obtain⟨J1,l1,e1,e2,h1⟩:=Wu (t:=t) xs ys h
 obtain⟨J2,l2,e3,h2⟩:=(h1.alloc (.cells (zs.map PA.iv).toArray t)).settle.learn
 rw[World.size_alloc,World.size_alloc] at e3
 exact⟨J2,Mem.le_trans l1 l2,l2 _ _ e1,l2 _ _ e2,e3,h2⟩
end PA
namespace Go.Proofs.YtgicfogmdfdjmaaGreatDoor
open Go.RowKit PA
attribute [local go_sem ↓] nI
attribute [local go_sem] ZM bs_z3 VH
set_option maxRecDepth 100000 in
set_option maxHeartbeats 16000000 in
theorem titleHolds_walk (a0:Option Addr) (len0 cap0:Nat) (z0:List Int) (a1:Option Addr) (len1 cap1:Nat) (z1:List Int) (a2 a3 a4:Int) (w:World) (_hW:WholeOK w)
 (w0:SB w a0 len0 cap0 z0) (w1:SB w a1 len1 cap1 z1) (w2:(Lit.int .i64 a2).wf=true) (w3:(Lit.int .i64 a3).wf=true) (_w4:(Lit.int .i64 a4).wf=true):
 Calls Tryz.prog 4 #[.slice a0 len0 cap0,.slice a1 len1 cap1,.int .i64 a2,.int .i64 a3,.int .i64 a4] w fun e w'=>e=.returned (.bool true)∧Below w.heap.size w w':=by
 obtain⟨l,rfl,hr0,h64⟩:=argI w0
 obtain⟨m,rfl,hr1,h65⟩:=argI w1
 have i2:=xC w2
 have i3:=xC w3
 have hsc:=He (.slice a0 l.length cap0) (.slice a1 m.length cap1) l m ⟨⟨_,_,rfl⟩,hr0,h64⟩ ⟨⟨_,_,rfl⟩,hr1,h65⟩ (Sat.WY w)
 obtain⟨x0,hx0⟩:∃x:Nat,iF a2 4=(x:Int):=⟨(iF a2 4).toNat,by have:=iW a2 4 (by omega);omega⟩
 obtain⟨x1,hx1⟩:∃x:Nat,iF a3 45=(x:Int):=⟨(iF a3 45).toNat,by have:=iW a3 45 (by omega);omega⟩
 obtain⟨x2,hx2⟩:∃x:Nat,iF a3 2000=(x:Int):=⟨(iF a3 2000).toNat,by have:=iW a3 2000 (by omega);omega⟩
 have hb0:(x0:Int)<4:=by have:=iW a2 4 (by omega);omega
 have hb1:(x1:Int)<45:=by have:=iW a3 45 (by omega);omega
 have hb2:(x2:Int)<2000:=by have:=iW a3 2000 (by omega);omega
 have HA0:Hid (∀w',Calls Tryz.prog 6 #[.int .i64 a2,.int .i64 4] w' fun e w''=>e=.returned (.int .i64 (x0:Int))∧w'=w''):=ah (fun w'=>by rw[←hx0];exact kZ a2 4 w' i2.1 i2.2 (by omega) (by omega))
 have HA1:Hid (∀w',Calls Tryz.prog 6 #[.int .i64 a3,.int .i64 45] w' fun e w''=>e=.returned (.int .i64 (x1:Int))∧w'=w''):=ah (fun w'=>by rw[←hx1];exact kZ a3 45 w' i3.1 i3.2 (by omega) (by omega))
 have HA2:Hid (∀w',Calls Tryz.prog 6 #[.int .i64 a3,.int .i64 2000] w' fun e w''=>e=.returned (.int .i64 (x2:Int))∧w'=w''):=ah (fun w'=>by rw[←hx2];exact kZ a3 2000 w' i3.1 i3.2 (by omega) (by omega))
 obtain⟨va,hva⟩:=aC (Value.slice a0 l.length cap0)
 obtain⟨vb,hvb⟩:=aC (Value.slice a1 m.length cap1)
 rw[←hva,←hvb] at hsc ⊢
 have SA:=ah hsc
 clear w0 w1 w2 w3 _w4 hr0 hr1 h64 h65 _hW hsc hx0 hx1 hx2 hva hvb i2 i3
 go_enter Tryz.func4,Tryz.ntmps4
 go_wp2_with fail
 refine SA.out.mono ?_
 rintro e w1 ⟨L,v1,v2,v3,z2,z3,J,rfl,hle,hc,h1,h2,h3,g2,g3,l2,l3,hS⟩
 have HL:=ah (RQ hc h1 h2 h3 g2 g3 l2 l3)
 have HS:=ah hS
 clear hc h1 h2 h3 g2 g3 l2 l3 hS SA hle
 go_wp2_with fail
 go_loopw [12] (fun iv wr=>∃(i:Nat) (J1:Mem),iv=.int .i64 i∧i≤4∧Mem.le J J1∧Sat w wr (sep (kn J1) emp)) (fun iv _=>5-(intOf iv).toNat)
 case atStart=>exact⟨0,J,rfl,by omega,Mem.le_refl _,HS.out⟩
 case round=>
  obtain⟨i,J1,rfl,hi4,hle1,hS1⟩:=hrel
  by_cases hlt:i<4
  ·as_aux_lemma=>
   have hltz:(i:Int)<4:=by omega
   obtain⟨v,xs,hL,hR⟩:=HL.out i hlt
   obtain⟨J2,hle2,e1,e2,e3,h2⟩:=OB (t:=3) [a2,2,7,5*(x0:Int)] [a3,95+(x1:Int),36000+(x2:Int)] [a4,1,2,3,4,0,-1,4096] hS1
   obtain⟨FB,hFB⟩:=aC (wr.heap.size)
   obtain⟨w2,hw2⟩:=aC (((wr.alloc (.cells ([a2,2,7,5*(x0:Int)].map PA.iv).toArray 3)).alloc (.cells ([a3,95+(x1:Int),36000+(x2:Int)].map PA.iv).toArray 3)).alloc (.cells ([a4,1,2,3,4,0,-1,4096].map PA.iv).toArray 3))
   rw[←hFB] at e1 e2 e3
   rw[←hw2] at h2
   have HW2:Hid (FB=wr.heap.size∧w2=((wr.alloc (.cells #[.int .i64 a2,.int .i64 2,.int .i64 7,.int .i64 (5*(x0:Int))] 3)).alloc (.cells #[.int .i64 a3,.int .i64 (95+(x1:Int)),.int .i64 (36000+(x2:Int))] 3)).alloc (.cells #[.int .i64 a4,.int .i64 1,.int .i64 2,.int .i64 3,.int .i64 4,.int .i64 0,.int .i64 (-1),.int .i64 4096] 3)):=ah ⟨hFB,hw2⟩
   have HFZ:Hid (∀w',Ext J2 w'→∀k z,([a2,2,7,5*(x0:Int)]:List Int)[k]?=some z→w'.cell? ⟨FB,k,none⟩=some (.int .i64 z)):=ah fun w' he k z hz=>IK e1 he hz
   have HDZ:Hid (∀w',Ext J2 w'→∀k z,([a3,95+(x1:Int),36000+(x2:Int)]:List Int)[k]?=some z→w'.cell? ⟨FB+1,k,none⟩=some (.int .i64 z)):=ah fun w' he k z hz=>IK e2 he hz
   have HPZ:Hid (∀w',Ext J2 w'→∀k z,([a4,1,2,3,4,0,-1,4096]:List Int)[k]?=some z→w'.cell? ⟨FB+2,k,none⟩=some (.int .i64 z)):=ah fun w' he k z hz=>IK e3 he hz
   have LK:=ah (And.intro (hL.mono (Mem.le_trans hle1 hle2)) (And.intro (hR.mono (Mem.le_trans hle1 hle2)) (Mem.le_trans hle1 hle2)))
   have H2:=ah h2
   have HI:=ah hlt
   clear hL hR e1 e2 e3 hFB hw2 h2 hle1 hle2 hS1 HS HL hi4 hlt
   go_wp2_with fail
   refine (HA0.out _).mono ?_
   rintro e w3 ⟨rfl,rfl⟩
   go_wp2_with fail
   refine (HA1.out _).mono ?_
   rintro e w3 ⟨rfl,rfl⟩
   go_wp2_with fail
   refine (HA2.out _).mono ?_
   rintro e w3 ⟨rfl,rfl⟩
   go_upto_region 8 with (fail)
   rw[←HW2.out.2,←HW2.out.1]
   go_wp2_with fail
   clear HW2
   go_loopw [16] (fun kv wr=>∃(k:Nat) (J3:Mem),kv=.int .i64 k∧k≤4∧Mem.le J2 J3∧Sat w wr (sep (kn J3) emp)) (fun kv _=>5-(intOf kv).toNat)
   case atStart=>exact⟨0,J2,rfl,by omega,Mem.le_refl _,H2.out⟩
   case round=>
    obtain⟨k,J3,rfl,hk,hle3,hS⟩:=hrel
    clear H2
    by_cases hlt:k<4
    ·as_aux_lemma=>
     have hkz:(k:Int)<4:=by omega
     have hi4:(i:Int)<4:=by have:=HI.out;omega
     obtain⟨fz,hfz⟩:∃z,([a2,2,7,5*(x0:Int)]:List Int)[k]?=some z:=⟨_,List.getElem?_eq_getElem (by simpa using hlt)⟩
     have HK:=ah (And.intro hlt (And.intro hle3 hfz))
     have HS:=ah hS
     clear hfz hlt hk hle3 hS
     go_wp2_with fail
     go_loopw [17] (fun jv wr=>∃(j:Nat) (J6:Mem),jv=.int .i64 j∧j≤3∧Mem.le J3 J6∧Sat w wr (sep (kn J6) emp)) (fun jv _=>4-(intOf jv).toNat)
     case atStart=>exact⟨0,J3,rfl,by omega,Mem.le_refl _,HS.out⟩
     case round=>
      obtain⟨j,J6,rfl,hj,yw,hS⟩:=hrel
      clear HS
      have DJ:Mem.le J2 J6:=Mem.le_trans HK.out.2.1 yw
      by_cases hjl:j<3
      ·as_aux_lemma=>
       have hjz:(j:Int)<3:=by omega
       obtain⟨dz,hdz⟩:∃z,([a3,95+(x1:Int),36000+(x2:Int)]:List Int)[j]?=some z:=⟨_,List.getElem?_eq_getElem (by simpa using hjl)⟩
       have hd:=hS.drew
       obtain⟨wd,hwd⟩:=aC (wr.drew)
       rw[←hwd] at hd
       have kR:=ah hwd
       have cf:=HFZ.out wd (iI DJ hd.ext) k fz HK.out.2.2
       have cd:=HDZ.out wd (iI DJ hd.ext) j dz hdz
       have hL6:=LK.out.1.mono DJ
       have cl:=hL6.1 wd hd.ext
       have HOA:=ah (Ho fz dz v xs (hL6.2.2.1.ok hL6.2.2.2) hL6.2.1 hd)
       have HJ:=ah (And.intro hjl (And.intro yw (And.intro DJ hdz)))
       obtain⟨eo,heo⟩:=aC (aP fz dz (sortK xs))
       obtain⟨li,YW⟩:=aC (oG fz dz xs)
       obtain⟨nl,hnl⟩:=aC (li.length)
       have hl4:nl≤4096:=by rw[hnl,YW];exact Nat.le_trans (U7 fz dz xs) (by have:=hL6.2.2.2;omega)
       have YZ:=ah (And.intro heo (And.intro YW (And.intro hnl hl4)))
       rw[←heo,←YW,←hnl] at HOA
       clear hwd hd hL6 hdz hjl hj yw DJ heo YW hnl hl4 hS
       go_upto_region 14 with (fail)
       refine aA rfl (fun _=>True) [(0,.p),(1,.p),(2,.p),(3,.t),(4,.p),(5,.p),(6,.p),(7,.t),(8,.p),(9,.p),(10,.p),(11,.t),(12,.e false),(13,.p),(14,.p),(15,.p),(16,.p),(17,.p)] (by kernel_rfl) ?_
       have hS0:True:=trivial
       rw[←kR.out]
       (repeat ((first|(refine eF (v:=?_) rfl rfl (fun w'=>?_) ?_;rotate_left;(go_simp;with_reducible rfl))|(refine eG (v:=?_) rfl rfl hS0 (fun w' hS=>?_) ?_;rotate_left;((try dsimp only at hS);go_simp;with_reducible rfl))|(refine eH (v:=?_) rfl rfl ?_ ?_;rotate_left;(go_simp;with_reducible rfl))|(refine bD rfl rfl ?_)|(refine bG rfl rfl hS0 ?_)|(refine bH rfl rfl ?_));simp only[Act.put,lsA,lsB,bC]))
       (refine iQ rfl rfl (fun K hK=>?_);go_simp)
       refine HOA.out.mono ?_
       rintro e w7 ⟨oa,oc,J7,rfl,Hf,h7⟩
       (refine hK _ _ (fun h=>by cases h) ?_;clear hK K;(try simp only[Act.put,lsA,lsB,bC]))
       (repeat ((first|(refine eF (v:=?_) rfl rfl (fun w'=>?_) ?_;rotate_left;(go_simp;with_reducible rfl))|(refine eG (v:=?_) rfl rfl hS0 (fun w' hS=>?_) ?_;rotate_left;((try dsimp only at hS);go_simp;with_reducible rfl))|(refine eH (v:=?_) rfl rfl ?_ ?_;rotate_left;(go_simp;with_reducible rfl))|(refine bD rfl rfl ?_)|(refine bG rfl rfl hS0 ?_)|(refine bH rfl rfl ?_));simp only[Act.put,lsA,lsB,bC]))
       refine bM ?_
       clear cf cl cd HOA kR
       have hd:=h7.drew
       obtain⟨wd,hwd⟩:=aC (w7.drew)
       rw[←hwd] at hd
       have kR:=ah hwd
       have hd1:Sat w wd (sep (kn J7) (sep (aK 83 4 oa nl oc (jG li)) emp)):=by simpa only[ay,au,aj] using hd
       have Lu:=Mem.le_trans HJ.out.2.2.1 Hf
       have cf:=HFZ.out wd (iI Lu hd1.ext) k fz HK.out.2.2
       have cd:=HDZ.out wd (iI Lu hd1.ext) j dz HJ.out.2.2.2
       have hL7:=LK.out.1.mono Lu
       have cl:=hL7.1 wd hd1.ext
       have hro:=Dz fz dz v xs (LK.out.2.1.mono Lu) hL7.2.1 hd1
       rw[←YZ.out.2.1,←YZ.out.1,←YZ.out.2.2.1] at hro
       have HRO:=ah hro
       have adb:=ah Hf
       clear h7 hd hd1 hwd Lu hL7 Hf hro
       go_upto_region 15 with (fail)
       refine aA rfl (fun _=>True) [(0,.p),(1,.p),(2,.p),(3,.t),(4,.p),(5,.p),(6,.p),(7,.t),(8,.p),(9,.p),(10,.p),(11,.t),(12,.e false),(13,.p),(14,.p),(15,.p),(16,.p),(17,.p)] (by kernel_rfl) ?_
       have hS0:True:=trivial
       rw[←kR.out]
       (repeat ((first|(refine eF (v:=?_) rfl rfl (fun w'=>?_) ?_;rotate_left;(go_simp;with_reducible rfl))|(refine eG (v:=?_) rfl rfl hS0 (fun w' hS=>?_) ?_;rotate_left;((try dsimp only at hS);go_simp;with_reducible rfl))|(refine eH (v:=?_) rfl rfl ?_ ?_;rotate_left;(go_simp;with_reducible rfl))|(refine bD rfl rfl ?_)|(refine bG rfl rfl hS0 ?_)|(refine bH rfl rfl ?_));simp only[Act.put,lsA,lsB,bC]))
       (refine iQ rfl rfl (fun K hK=>?_);go_simp)
       refine HRO.out.mono ?_
       rintro e w8 ⟨ra,rc,J8,rfl,ade,h8⟩
       (refine hK _ _ (fun h=>by cases h) ?_;clear hK K;(try simp only[Act.put,lsA,lsB,bC]))
       (repeat ((first|(refine eF (v:=?_) rfl rfl (fun w'=>?_) ?_;rotate_left;(go_simp;with_reducible rfl))|(refine eG (v:=?_) rfl rfl hS0 (fun w' hS=>?_) ?_;rotate_left;((try dsimp only at hS);go_simp;with_reducible rfl))|(refine eH (v:=?_) rfl rfl ?_ ?_;rotate_left;(go_simp;with_reducible rfl))|(refine bD rfl rfl ?_)|(refine bG rfl rfl hS0 ?_)|(refine bH rfl rfl ?_));simp only[Act.put,lsA,lsB,bC]))
       refine bM ?_
       clear cf cl cd HRO kR hS0
       have hbe:(eo !=eo)=false:=by simp
       have RS:=ah (QA oa nl oc li YZ.out.2.2.1.symm (by have:=YZ.out.2.2.2;omega) (A:=sep (aK 84 4 ra nl rc (jG li)) (sep (kn J8) emp)) (by simpa only[ay,au,aj] using h8))
       have adf:=ah ade
       clear h8 ade
       go_wp2_with fail
       refine RS.out.mono ?_
       rintro e w9 ⟨pa,pc,rfl,h9⟩
       have iV:=ah (En pa ra nl nl pc rc li li YZ.out.2.2.1.symm YZ.out.2.2.1.symm (by have:=YZ.out.2.2.2;omega) (by have:=YZ.out.2.2.2;omega) (A:=sep (aK 83 4 oa nl oc (jG li)) (sep (kn J8) emp)) (by simpa only[ay,au,aj] using h9))
       have hdd:decide (li=li)=true:=by simp
       rw[hdd] at iV
       clear h9 RS hdd
       go_wp2_with fail
       refine iV.out.mono ?_
       rintro e w10 ⟨rfl,h10⟩
       have nO:Hid (Sat w w10 (sep (kn J8) emp)):=ah h10.cO.cO.cO
       clear h10 iV hbe
       have adg:Hid (Mem.le J2 J8):=ah (Mem.le_trans HJ.out.2.2.1 (Mem.le_trans adb.out adf.out))
       go_wp2_with fail
       go_loopw [22] (fun nv wr=>∃(n:Nat) (J9:Mem),nv=.int .i64 n∧n≤8∧Mem.le J8 J9∧Sat w wr (sep (kn J9) emp)) (fun nv _=>9-(intOf nv).toNat)
       case atStart=>exact⟨0,J8,rfl,by omega,Mem.le_refl _,nO.out⟩
       case round=>
        obtain⟨n,J9,rfl,hn,Wv,hS⟩:=hrel
        clear nO
        by_cases hnl:n<8
        ·as_aux_lemma=>
         have hnz:(n:Int)<8:=by omega
         have Gg:Mem.le J2 J9:=Mem.le_trans adg.out Wv
         obtain⟨pz,hpz⟩:∃z,([a4,1,2,3,4,0,-1,4096]:List Int)[n]?=some z:=⟨_,List.getElem?_eq_getElem (by simpa using hnl)⟩
         have hd:=hS.drew
         obtain⟨wd,hwd⟩:=aC (wr.drew)
         rw[←hwd] at hd
         have kR:=ah hwd
         have cf:=HFZ.out wd (iI Gg hd.ext) k fz HK.out.2.2
         have cd:=HDZ.out wd (iI Gg hd.ext) j dz HJ.out.2.2.2
         have cp:=HPZ.out wd (iI Gg hd.ext) n pz hpz
         have hL9:=LK.out.1.mono Gg
         have cl:=hL9.1 wd hd.ext
         have hjz:(j:Int)<3:=by have:=HJ.out.1;omega
         have RZ:=ah (QO fz dz pz v xs (hL9.2.2.1.ok hL9.2.2.2) hL9.2.1 hd)
         have HN:=ah (And.intro hnl (And.intro Wv (And.intro Gg hpz)))
         obtain⟨ec,hec⟩:=aC (tZ fz dz pz xs)
         obtain⟨ch,hch⟩:=aC (nC fz dz pz xs)
         obtain⟨nc,hnc⟩:=aC (ch.length)
         have HEC:=ah (And.intro hec (And.intro hch hnc))
         rw[←hec,←hch,←hnc] at RZ
         clear hwd hd hL9 hpz hnl hn Wv Gg hec hch hnc hS
         go_upto_region 21 with (fail)
         refine aA rfl (fun _=>True) [(0,.p),(1,.p),(2,.p),(3,.t),(4,.p),(5,.p),(6,.p),(7,.t),(8,.p),(9,.p),(10,.p),(11,.t),(12,.p),(13,.p),(14,.p),(15,.t),(16,.e false),(17,.p),(18,.p),(19,.p),(20,.p),(21,.p)] (by kernel_rfl) ?_
         have hS0:True:=trivial
         rw[←kR.out]
         (repeat ((first|(refine eF (v:=?_) rfl rfl (fun w'=>?_) ?_;rotate_left;(go_simp;with_reducible rfl))|(refine eG (v:=?_) rfl rfl hS0 (fun w' hS=>?_) ?_;rotate_left;((try dsimp only at hS);go_simp;with_reducible rfl))|(refine eH (v:=?_) rfl rfl ?_ ?_;rotate_left;(go_simp;with_reducible rfl))|(refine bD rfl rfl ?_)|(refine bG rfl rfl hS0 ?_)|(refine bH rfl rfl ?_));simp only[Act.put,lsA,lsB,bC]))
         (refine iQ rfl rfl (fun K hK=>?_);go_simp)
         refine RZ.out.mono ?_
         rintro e LG ⟨ca,cc,J10,rfl,Wx,h11⟩
         (refine hK _ _ (fun h=>by cases h) ?_;clear hK K;(try simp only[Act.put,lsA,lsB,bC]))
         (repeat ((first|(refine eF (v:=?_) rfl rfl (fun w'=>?_) ?_;rotate_left;(go_simp;with_reducible rfl))|(refine eG (v:=?_) rfl rfl hS0 (fun w' hS=>?_) ?_;rotate_left;((try dsimp only at hS);go_simp;with_reducible rfl))|(refine eH (v:=?_) rfl rfl ?_ ?_;rotate_left;(go_simp;with_reducible rfl))|(refine bD rfl rfl ?_)|(refine bG rfl rfl hS0 ?_)|(refine bH rfl rfl ?_));simp only[Act.put,lsA,lsB,bC]))
         refine bM ?_
         clear cf cl cd cp RZ kR
         have hd:=h11.drew
         obtain⟨wd,hwd⟩:=aC (LG.drew)
         rw[←hwd] at hd
         have kR:=ah hwd
         have hd1:Sat w wd (sep (kn J10) (sep (aK 3 1 ca nc cc (ch.map PA.iv)) emp)):=by simpa only[ay,au,aj] using hd
         have yM:=Mem.le_trans HN.out.2.2.1 Wx
         have cf:=HFZ.out wd (iI yM hd1.ext) k fz HK.out.2.2
         have cd:=HDZ.out wd (iI yM hd1.ext) j dz HJ.out.2.2.2
         have cp:=HPZ.out wd (iI yM hd1.ext) n pz HN.out.2.2.2
         have abb:=LK.out.1.mono yM
         have cl:=abb.1 wd hd1.ext
         have hrc:=Lr fz dz pz v xs (LK.out.2.1.mono yM) abb.2.1 hd1
         rw[←HEC.out.2.1,←HEC.out.1,←HEC.out.2.2] at hrc
         have OQ:=ah hrc
         have adk:=ah Wx
         clear h11 hd hd1 hwd yM abb Wx hrc
         go_upto_region 22 with (fail)
         refine aA rfl (fun _=>True) [(0,.p),(1,.p),(2,.p),(3,.t),(4,.p),(5,.p),(6,.p),(7,.t),(8,.p),(9,.p),(10,.p),(11,.t),(12,.p),(13,.p),(14,.p),(15,.t),(16,.e false),(17,.p),(18,.p),(19,.p),(20,.p),(21,.p)] (by kernel_rfl) ?_
         have hS0:True:=trivial
         rw[←kR.out]
         (repeat ((first|(refine eF (v:=?_) rfl rfl (fun w'=>?_) ?_;rotate_left;(go_simp;with_reducible rfl))|(refine eG (v:=?_) rfl rfl hS0 (fun w' hS=>?_) ?_;rotate_left;((try dsimp only at hS);go_simp;with_reducible rfl))|(refine eH (v:=?_) rfl rfl ?_ ?_;rotate_left;(go_simp;with_reducible rfl))|(refine bD rfl rfl ?_)|(refine bG rfl rfl hS0 ?_)|(refine bH rfl rfl ?_));simp only[Act.put,lsA,lsB,bC]))
         (refine iQ rfl rfl (fun K hK=>?_);go_simp)
         refine OQ.out.mono ?_
         rintro e w12 ⟨da,dc,J11,rfl,ZN,h12⟩
         (refine hK _ _ (fun h=>by cases h) ?_;clear hK K;(try simp only[Act.put,lsA,lsB,bC]))
         (repeat ((first|(refine eF (v:=?_) rfl rfl (fun w'=>?_) ?_;rotate_left;(go_simp;with_reducible rfl))|(refine eG (v:=?_) rfl rfl hS0 (fun w' hS=>?_) ?_;rotate_left;((try dsimp only at hS);go_simp;with_reducible rfl))|(refine eH (v:=?_) rfl rfl ?_ ?_;rotate_left;(go_simp;with_reducible rfl))|(refine bD rfl rfl ?_)|(refine bG rfl rfl hS0 ?_)|(refine bH rfl rfl ?_));simp only[Act.put,lsA,lsB,bC]))
         refine bM ?_
         clear cf cl cd cp OQ kR hS0
         have hbe:(ec !=ec)=false:=by simp
         have HSI:Hid (Calls Tryz.prog 9 #[.slice ca nc cc,.slice da nc dc] w12 fun e w'=>e=.returned (.bool true)∧Sat w w' (sep (kn J11) emp)):=ah (by
          rw[HEC.out.2.2]
          refine (uo ca da cc dc ch ch (A:=sep (kn J11) emp) (by rw[←HEC.out.2.2];simpa only[ay,au,aj] using h12)).mono ?_
          rintro e w' ⟨rfl,h6⟩
          exact⟨by simp,h6⟩)
         have adl:=ah ZN
         clear h12 ZN
         go_wp2_with fail
         refine HSI.out.mono ?_
         rintro e Je ⟨rfl,h13⟩
         have RX:=ah h13
         clear h13 HSI hbe
         go_wp2
         go_roundw
         case rel=>exact⟨n+1,J11,by go_num,by have:=HN.out.1;omega,Mem.le_trans HN.out.2.1 (Mem.le_trans adk.out adl.out),RX.out⟩
         case measure=>simp[intOf];have:=HN.out.1;omega
        ·have hnz:¬(n:Int)<8:=by omega
         have HS:=ah (And.intro Wv hS)
         clear hnl hn Wv hS
         go_wp2
         go_roundw
         case rel=>exact⟨j+1,J9,by go_num,by have:=HJ.out.1;omega,Mem.le_trans HJ.out.2.1 (Mem.le_trans adb.out (Mem.le_trans adf.out HS.out.1)),HS.out.2⟩
         case measure=>simp[intOf];have:=HJ.out.1;omega
      ·have hjz:¬(j:Int)<3:=by omega
       have HS:=ah (And.intro DJ hS)
       clear hjl hj yw DJ hS
       go_wp2
       go_roundw
       case rel=>exact⟨k+1,J6,by go_num,by have:=HK.out.1;omega,HS.out.1,HS.out.2⟩
       case measure=>simp[intOf];have:=HK.out.1;omega
    ·have hkz:¬(k:Int)<4:=by omega
     have HS:=ah (And.intro hle3 hS)
     clear hlt hk hle3 hS
     go_wp2
     go_roundw
     case rel=>exact⟨i+1,J3,by go_num,by have:=HI.out;omega,Mem.le_trans LK.out.2.2 HS.out.1,HS.out.2⟩
     case measure=>simp[intOf];have:=HI.out;omega
  ·have hltz:¬(i:Int)<4:=by omega
   have HLV:=ah (GY hS1)
   clear hlt hi4
   go_wp2_with fail
   refine HLV.out.mono ?_
   rintro e w3 ⟨rfl,h3⟩
   go_wp2
   go_ret
   exact⟨rfl,h3.below⟩
end Go.Proofs.YtgicfogmdfdjmaaGreatDoor

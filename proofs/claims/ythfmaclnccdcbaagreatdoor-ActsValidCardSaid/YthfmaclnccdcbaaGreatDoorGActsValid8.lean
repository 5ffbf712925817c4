/- Part of a proof. -/
import Derived.Test.YthfmaclnccdcbaaGreatDoorGActsValid6
import Derived.Test.YthfmaclnccdcbaaGreatDoorGActsValid7
import Derived.Deep.CutRange
namespace Go.Proofs.YthfmaclnccdcbaaGreatDoor
open Go.RowKit PA
structure ValC (W:World) (Q:Nat→Pa→Prop) (v:Pa→Int):Prop where
 sp:∀n x h b,Q n x→gI b→Q (n+2) (oJ x h b)
 en:∀n x,Q n x→x.ea.length≤n
 zero:∀k d f,gI k→gI d→gI f→Q 0 {Pa.zero with k:=k,d:=d,f:=f}
 mv:∀(w:World) (A:aB) (I:Mem) (z:Ac) (x:Pa) (n:Nat),n≤100→Q n x→kR I z x→Sat W w (sep (kn I) A)→Calls Tryz.prog 17 #[.agg z.cells.toArray] w fun e w'=>∃J,e=.returned (.int .i64 (v x))∧Mem.le I J∧Sat W w' (sep (kn J) A)
 rv:∀(w:World) (A:aB) (I:Mem) (z:Ac) (x:Pa) (n:Nat),n≤100→Q n x→kR I z x→Sat W w (sep (kn I) A)→Calls Tryz.prog 18 #[.agg z.cells.toArray] w fun e w'=>∃J,e=.returned (.int .i64 (v x))∧Mem.le I J∧Sat W w' (sep (kn J) A)
 lv:∀(w:World) (A:aB),Sat W w A→Calls Tryz.prog 19 #[] w fun e w'=>e=.returned (.bool true)∧Sat W w' A
theorem NR (I:Mem) (k d f:Int):kR I ⟨k,d,0,f,0,0,0,0,0,0,0,Sv.none,Sv.none,Sv.none,Sv.none,0,0,Sv.none,Sv.none⟩ {Pa.zero with k:=k,d:=d,f:=f}:=
 ⟨rfl,rfl,rfl,rfl,rfl,rfl,rfl,rfl,rfl,rfl,rfl,aA _ _ _,aA _ _ _,aA _ _ _,aA _ _ _,dD I⟩
def Jj:Nat→List Nat:=fun x=>if x=3 then [2] else if x=6 then [3,5] else if x=8 then [6,7] else []
def Jk:Nat→List Nat:=fun x=>if x=4 then [3] else if x=5 then [3,4] else if x=7 then [5,6] else []
attribute [local go_sem ↓] dw dM bG
theorem LZ {W w:World} {A:aB} (z:Ac) (h:Sat W w A) (cs:Array Value) (hs:cs.size=19):∃w',Sem.run Tryz.prog (Jl (.pointer (some ⟨w.heap.size,0,none⟩)) (.agg z.cells.toArray)) (w.alloc (.cells cs 36))=.ok () w'∧Sat W w' (sep (blk w.heap.size (.cells z.cells.toArray 36 (0,0))) A):=by
 have h1:=h.alloc (.cells cs 36)
 exact⟨_,bK h1.aK hs z,h1.setRow _⟩
set_option maxRecDepth 100000 in
set_option maxHeartbeats 16000000 in
theorem Bg {w:World} {Q:Nat→Pa→Prop} {v:Pa→Int} (hC:ValC w Q v) (va:Value) (how b also kind:Int) (h1:gI how) (h2:gI b) (h3:gI also) (h4:gI kind)
 (hS:Calls Tryz.prog 14 #[va,.int .i64 12] w fun e w'=>∃(a:Option Addr) (n c:Nat) (zl:List Ac) (J:Mem),e=.returned (.slice a n c)∧n=zl.length∧n≤12∧(∀(i:Nat) (z:Ac),zl[i]?=some z→∃p,kR J z p∧Q 2 p∧v p=0)∧Sat w w' (sep (aY 36 19 a n c (dS zl)) (sep (kn J) emp))):
 Calls Tryz.prog 3 #[va,.int .i64 how,.int .i64 b,.int .i64 also,.int .i64 kind] w fun e w'=>e=.returned (.bool true)∧Below w.heap.size w w':=by
 have HS:=ah hS
 have HC:=ah hC
 have Ap:=ah (And.intro h1 (And.intro h2 (And.intro h3 h4)))
 clear hS hC h1 h2 h3 h4
 go_enter Tryz.func3,Tryz.ntmps3
 go_wp2_with fail
 refine HS.out.mono ?_
 rintro e w1 ⟨a,n,c,zl,J,rfl,hn,Ul,hz,hq⟩
 have hsw:=hq.gG
 obtain⟨J1,hle1,Zj,hS1⟩:=hq.fE.learn
 have HZ:Hid (n=zl.length∧n≤12∧(∀(i:Nat) (z:Ac),zl[i]?=some z→∃p,kR J1 z p∧Q 2 p∧v p=0)∧jh a (dS zl) J1):=ah ⟨hn,Ul,fun i z h=>by obtain⟨p,p1,p2⟩:=hz i z h;exact⟨p,p1.mono hle1,p2⟩,Zj⟩
 have H1:=ah hS1
 have hn63:(n:Int)≤12:=by omega
 clear hn Ul hz hq hsw hle1 Zj hS1 HS
 go_upto_block 0 with (fail)
 go_cut [] from 12 to 67 (fun wx=>∃K:Mem,Sat w wx (sep (kn K) emp))
 case first=>
  as_aux_lemma=>
  go_wp2_with fail
  go_loopw [12] (fun kv wr=>∃(i:Nat) (K:Mem),kv=.int .i64 i∧i≤n∧Hid (Mem.le J1 K)∧Sat w wr (sep (kn K) emp)) (fun kv _=>n-(intOf kv).toNat)
  case atStart=>exact⟨0,J1,rfl,by omega,ah (Mem.le_refl _),H1.out⟩
  case round=>
   obtain⟨i,K,rfl,hi,HL,hS⟩:=hrel
   clear H1
   by_cases hlt:i<n
   ·have hltz:(i:Int)<(n:Int):=by omega
    obtain⟨z,hz⟩:∃z,zl[i]?=some z:=⟨_,List.getElem?_eq_getElem (by have:=HZ.out.1;omega)⟩
    obtain⟨p,hp1,hp2,hp3⟩:=HZ.out.2.2.1 i z hz
    obtain⟨b0,o0,hab,hld⟩:=Um HZ.out.2.2.2 hz
    have abq:=hld wr (fun g o hg=>hS.ext g o (HL.out g o hg))
    have hen:=HC.out.en 2 p hp2
    have hsp:=ny (A:=emp) z p how b (hp1.mono HL.out) Ap.out.1 Ap.out.2.1 (by omega) hS
    have Xz:=HC.out.sp 2 p (dQ how 14) b hp2 Ap.out.2.1
    obtain⟨x1,hx1⟩:=aC (oJ p (dQ how 14) b)
    rw[←hx1] at hsp Xz
    have Zk:=ah hsp
    have HP:=ah (And.intro hp1 (And.intro hp2 (And.intro hp3 Xz)))
    have HLD:=ah hld
    have LY:=ah hlt
    subst hab
    clear hz hp1 hp2 hp3 hld hen hsp Xz hx1 hlt hi hS
    go_upto_region 5 with (fail)
    go_wp2_with fail
    refine Zk.out.mono ?_
    rintro e w2 ⟨z1,J2,rfl,hle2,hi1,h2⟩
    obtain⟨w4,hst,h4⟩:=LZ z1 h2 #[.int .i64 0,.int .i64 0,.int .i64 0,.int .i64 0,.int .i64 0,.int .i64 0,.int .i64 0,.int .i64 0,.int .i64 0,.int .i64 0,.int .i64 0,.slice none 0 0,.slice none 0 0,.slice none 0 0,.slice none 0 0,.int .i64 0,.int .i64 0,.slice none 0 0,.slice none 0 0] rfl
    have HI1:=ah (And.intro hi1 (Mem.le_trans HL.out hle2))
    have H4:=ah h4
    clear hle2 hi1 h2 h4 Zk abq
    go_upto_region 6 with (fail)
    clear hst
    have F6:=H4.out.drew
    obtain⟨wd,hwd⟩:=aC (w4.drew)
    rw[←hwd] at F6
    have hl1:=dN (fun i v hv=>(ay F6 i v hv).1)
    have L6:=iJ b 9 (by omega)
    obtain⟨r,hr⟩:=aC (dQ b 9)
    rw[←hr] at L6
    have hwr:IntKind.i64.wrap (r-1)=r-1:=IntWalk.i64_in _ (by omega)
    have hQ2:=HC.out.sp 4 x1 (dQ also 14) (r-1) HP.out.2.2.2 ⟨by omega,by omega⟩
    have hen:=HC.out.en 4 x1 HP.out.2.2.2
    obtain⟨x2,hx2⟩:=aC (oJ x1 (dQ also 14) (r-1))
    rw[←hx2] at hQ2
    have PS:=ah hx2
    have Zl:=ah hQ2
    have HR:=ah (And.intro hr (And.intro L6 hen))
    have hT0:Sat w wd (newT (fun i=>if i=3 then some (.int .i64 r) else if i=4 then some (.int .i64 (r-1)) else none) 5 6 7 36 #[.int .i64 0,.int .i64 0,.int .i64 0,.int .i64 0,.int .i64 0,.int .i64 0,.int .i64 0,.int .i64 0,.int .i64 0,.int .i64 0,.int .i64 0,.slice none 0 0,.slice none 0 0,.slice none 0 0,.slice none 0 0,.int .i64 0,.int .i64 0,.slice none 0 0,.slice none 0 0] J2 x2 (sep (blk w2.heap.size (.cells z1.cells.toArray 36 (0,0))) emp) (fun _=>none)):=Jm F6.p1 (fun _=>rfl)
    have HT0:=ah hT0
    have nJ:=ah hwd
    clear F6 hwd hr L6 hQ2 hen hx2 hT0
    refine dA rfl (fun w'=>Sem.run Tryz.prog (eX (.pointer (some ⟨w2.heap.size,0,none⟩))) w'=.ok (.agg z1.cells.toArray) w') [.one 0 .s,.one 1 .p,.one 2 .p,.grp true [(3,[]),(4,[]),(5,[]),(6,[]),(7,[])]] (by kernel_rfl) ?_
    rw[←nJ.out]
    have hS0:Sem.run Tryz.prog (eX (.pointer (some ⟨w2.heap.size,0,none⟩))) wd=.ok (.agg z1.cells.toArray) wd:=hl1
    clear hl1
    (repeat ((first|(refine E5 (v:=?_) rfl rfl (fun w'=>?_) ?_;rotate_left;(go_simp;with_reducible rfl))|(refine E8 (v:=?_) rfl rfl hS0 (fun w' hS=>?_) ?_;rotate_left;((try dsimp only at hS);go_simp;with_reducible rfl))|(refine Fa (v:=?_) rfl rfl ?_ ?_;rotate_left;(go_simp;with_reducible rfl))|(refine oW rfl rfl ?_)|(refine oZ rfl rfl hS0 ?_)|(refine o7 rfl rfl ?_));simp only[Act.put,lsA,lsB,bV]))
    refine vI (n:=5) rfl ?_
    clear hS0
    refine iC [3,4,5,6,7] Jk (newT (fun i=>if i=3 then some (.int .i64 r) else if i=4 then some (.int .i64 (r-1)) else none) 5 6 7 36 #[.int .i64 0,.int .i64 0,.int .i64 0,.int .i64 0,.int .i64 0,.int .i64 0,.int .i64 0,.int .i64 0,.int .i64 0,.int .i64 0,.int .i64 0,.slice none 0 0,.slice none 0 0,.slice none 0 0,.slice none 0 0,.int .i64 0,.int .i64 0,.slice none 0 0,.slice none 0 0] J2 x2 (sep (blk w2.heap.size (.cells z1.cells.toArray 36 (0,0))) emp)) (by kernel_rfl) (by kernel_rfl) ?_ ?_ ?_ 5 [3,4,5,6,7] (fun _=>none) wd rfl (by decide) (fun z=>by simp) (fun _ _ h=>by cases h) HT0.out
    ·intro _ f w' hT
     obtain⟨q,hp,hq⟩:=fO.1 hT
     exact dN (fun i v hv=>(ay hq.p2 i v hv).1)
    ·intro i' hi' f w' o' ho hfi dK hcl hT
     simp only[List.mem_cons,List.not_mem_nil,or_false] at hi'
     have hno:∀y z,y∈[3,4,5,6,7]→z∈Jk y→f z=none→f y=none:=fun y z hy hz hf=>by
      cases Ae:f y with
      | none=>rfl
      | some v=>have:=hcl y hy (by rw[Ae];rfl) z hz;rw[hf] at this;cases this
     rcases hi' with rfl|rfl|rfl|rfl|rfl
     ·as_aux_lemma=>
      cases ho
      refine .inl (.inr ⟨16,#[.int .i64 b,.int .i64 9],w',?_,(iy b 9 w' Ap.out.2.1.1 Ap.out.2.1.2 (by omega) (by omega)).mono ?_⟩)
      ·(go_simp;try rfl)
      ·rintro e w'' ⟨rfl,rfl⟩
       rw[←HR.out.1]
       exact⟨_,rfl,wC rfl (by decide) (by decide) (by decide) hT⟩
     ·as_aux_lemma=>
      cases ho
      obtain⟨v3,hv3⟩:=Option.isSome_iff_exists.1 (dK 3 (by decide))
      obtain⟨q,hp,-⟩:=fO.1 hT
      obtain rfl:=hp.v 3 _ v3 rfl hv3
      refine .inl (.inl ⟨.int .i64 (r-1),w',?_,wC rfl (by decide) (by decide) (by decide) hT⟩)
      simp[bQ,List.filter,Jk,hv3,aO,Act.put]
      (go_simp;try rw[hwr];try rfl)
     ·as_aux_lemma=>
      cases ho
      obtain⟨v4,hv4⟩:=Option.isSome_iff_exists.1 (dK 4 (by decide))
      obtain⟨v3,hv3⟩:=Option.isSome_iff_exists.1 (dK 3 (by decide))
      obtain⟨q,hp,hq⟩:=fO.1 hT
      obtain rfl:=hp.v 4 _ v4 rfl hv4
      obtain rfl:=hp.v 3 _ v3 rfl hv3
      refine .inl (.inr ⟨15,#[.agg z1.cells.toArray,.int .i64 also,.int .i64 (r-1)],w',?_,(ny z1 x1 also (r-1) (HI1.out.1.mono hp.le) Ap.out.2.2.1 ⟨by have:=HR.out.2.1;omega,by have:=HR.out.2.1;omega⟩ (by have:=HR.out.2.2;omega) hq).mono ?_⟩)
      ·simp[bQ,List.filter,Jk,hv4,hv3,aO,Act.put]
       (go_simp;try rfl)
      ·rintro e w'' ⟨z2,J3,rfl,hle3,hi2,h3⟩
       exact⟨_,rfl,Jo hp hle3 (by rw[PS.out];exact hi2) rfl (by decide) (by decide) (hno 7 5 (by decide) (by decide) hfi) h3⟩
     ·as_aux_lemma=>
      cases ho
      refine .inl (.inl ⟨.pointer (some ⟨w'.heap.size,0,none⟩),w'.alloc (.cells #[.int .i64 0,.int .i64 0,.int .i64 0,.int .i64 0,.int .i64 0,.int .i64 0,.int .i64 0,.int .i64 0,.int .i64 0,.int .i64 0,.int .i64 0,.slice none 0 0,.slice none 0 0,.slice none 0 0,.slice none 0 0,.int .i64 0,.int .i64 0,.slice none 0 0,.slice none 0 0] 36),?_,Eo rfl (by decide) (by decide) hfi (hno 7 6 (by decide) (by decide) hfi) hT⟩)
      (go_simp;try rfl)
     ·as_aux_lemma=>
      cases ho
      obtain⟨v5,hv5⟩:=Option.isSome_iff_exists.1 (dK 5 (by decide))
      obtain⟨v6,hv6⟩:=Option.isSome_iff_exists.1 (dK 6 (by decide))
      obtain⟨z2,g,rfl,rfl,⟨R,hR⟩,hst⟩:=Ep (u:=undef) rfl (by decide) (by decide) hv5 hv6 hfi hT
      have hrun:=bK hR.aK rfl z2
      refine .inr ⟨w'.setRow g z2.cells.toArray,?_,hst _ fun R' h'=>h'.setRow _⟩
      simp[bQ,List.filter,Jk,hv5,hv6,aO,Act.put]
      (go_simp;try rfl)
    ·intro f w' hall hT
     obtain⟨v3,hv3⟩:=Option.isSome_iff_exists.1 (hall 3 (by decide))
     obtain⟨v4,hv4⟩:=Option.isSome_iff_exists.1 (hall 4 (by decide))
     obtain⟨v5,hv5⟩:=Option.isSome_iff_exists.1 (hall 5 (by decide))
     obtain⟨v6,hv6⟩:=Option.isSome_iff_exists.1 (hall 6 (by decide))
     obtain⟨v7,hv7⟩:=Option.isSome_iff_exists.1 (hall 7 (by decide))
     obtain⟨z2,g,K3,rfl,rfl,hle3,hi2,h3⟩:=Jp hv5 hv6 hv7 hT
     simp only[bQ,List.foldl,hv3,hv4,hv5,hv6,hv7,aO]
     have HI2:=ah (And.intro hi2 hle3)
     have H3:=ah h3
     clear hT hall hv3 hv4 hv5 hv6 hv7 hi2 hle3 h3
     simp only[Act.put,yP,yQ,yR,Option.bind_some,lsA,lsB,bV]
     refine qo ?_
     go_upto_region 7 with (fail)
     have Z7:Mem.le J1 K3:=Mem.le_trans HI1.out.2 HI2.out.2
     have h4':=H3.out.drew
     obtain⟨we,hwe⟩:=aC (w'.drew)
     rw[←hwe] at h4'
     have Fq:Hid (∀w3 K',Mem.le K3 K'→Sat w w3 (sep (kn K') (sep (blk g (.cells z2.cells.toArray 36 (0,0))) (sep (blk w2.heap.size (.cells z1.cells.toArray 36 (0,0))) emp)))→Sem.run Tryz.prog (eX (.pointer (some ⟨b0,o0+i*19,none⟩))) w3=.ok (.agg z.cells.toArray) w3∧Sem.run Tryz.prog (eX (.pointer (some ⟨w2.heap.size,0,none⟩))) w3=.ok (.agg z1.cells.toArray) w3∧Sem.run Tryz.prog (eX (.pointer (some ⟨g,0,none⟩))) w3=.ok (.agg z2.cells.toArray) w3):=ah fun w3 K' hl h3=>
      ⟨HLD.out w3 fun g o hg=>h3.ext g o (hl g o (Z7 g o hg)),dN (fun i v hv=>(ay h3.p2 i v hv).1),dN (fun i v hv=>(ay h3.p1 i v hv).1)⟩
     have h5:Sat w we (sep (kn K3) (sep (blk g (.cells z2.cells.toArray 36 (0,0))) (sep (blk w2.heap.size (.cells z1.cells.toArray 36 (0,0))) emp))):=h4'.p1
     have hS0:=Fq.out we K3 (Mem.le_refl _) h5
     have hm0:=HC.out.mv we _ K3 z p 2 (by omega) HP.out.2.1 (HP.out.1.mono Z7) h5
     rw[HP.out.2.2.1] at hm0
     have HM0:=ah hm0
     have iV:=ah Z7
     have HWE:=ah hwe
     clear h4' h5 hm0 Z7 hwe H3
     refine aG rfl (fun w3=>Sem.run Tryz.prog (eX (.pointer (some ⟨b0,o0+i*19,none⟩))) w3=.ok (.agg z.cells.toArray) w3∧Sem.run Tryz.prog (eX (.pointer (some ⟨w2.heap.size,0,none⟩))) w3=.ok (.agg z1.cells.toArray) w3∧Sem.run Tryz.prog (eX (.pointer (some ⟨g,0,none⟩))) w3=.ok (.agg z2.cells.toArray) w3) [(0,.p),(1,.p),(2,.p),(3,.t),(4,.e true),(5,.p),(6,.p),(7,.p),(8,.p),(9,.p),(10,.t),(11,.e true),(12,.p),(13,.p),(14,.p),(15,.t),(17,.s),(16,.e true),(18,.e true),(19,.p),(20,.p),(21,.p),(22,.t),(24,.s),(23,.e true),(25,.e false),(26,.p),(27,.p)] (by kernel_rfl) ?_
     rw[←HWE.out]
     (repeat ((first|(refine iK (v:=?_) rfl rfl (fun w'=>?_) ?_;rotate_left;(go_simp;with_reducible rfl))|(refine iL (v:=?_) rfl rfl hS0 (fun w' hS=>?_) ?_;rotate_left;((try dsimp only at hS);go_simp;with_reducible rfl))|(refine iM (v:=?_) rfl rfl ?_ ?_;rotate_left;(go_simp;with_reducible rfl))|(refine dF rfl rfl ?_)|(refine dG rfl rfl hS0 ?_)|(refine dH rfl rfl ?_));simp only[Act.put,lsA,lsB,bV]))
     (refine jK rfl rfl (fun K hK=>?_);go_simp)
     refine HM0.out.mono ?_
     rintro e wf ⟨K4,rfl,pO,h6⟩
     clear HM0
     have hm:=HC.out.rv wf _ K4 z p 2 (by omega) HP.out.2.1 (HP.out.1.mono (Mem.le_trans iV.out pO)) h6
     rw[HP.out.2.2.1] at hm
     have HM:=ah hm
     have Zm:=ah pO
     clear hS0
     have hS0:=Fq.out wf K4 pO h6
     clear hm pO h6
     (refine hK _ _ (fun _=>hS0) ?_;clear hK K;(try simp only[Act.put,lsA,lsB,bV]))
     (repeat ((first|(refine iK (v:=?_) rfl rfl (fun w'=>?_) ?_;rotate_left;(go_simp;with_reducible rfl))|(refine iL (v:=?_) rfl rfl hS0 (fun w' hS=>?_) ?_;rotate_left;((try dsimp only at hS);go_simp;with_reducible rfl))|(refine iM (v:=?_) rfl rfl ?_ ?_;rotate_left;(go_simp;with_reducible rfl))|(refine dF rfl rfl ?_)|(refine dG rfl rfl hS0 ?_)|(refine dH rfl rfl ?_));simp only[Act.put,lsA,lsB,bV]))
     (refine jK rfl rfl (fun K hK=>?_);go_simp)
     refine HM.out.mono ?_
     rintro e wg ⟨K5,rfl,yX,h7⟩
     clear HM
     have hL5:=Mem.le_trans Zm.out yX
     have hm:=HC.out.mv wg _ K5 z1 x1 4 (by omega) HP.out.2.2.2 (HI1.out.1.mono (Mem.le_trans HI2.out.2 hL5)) h7
     obtain⟨v1,hv1⟩:=aC (v x1)
     rw[←hv1] at hm
     have HM:=ah hm
     have XU:=ah hL5
     have XJ:=ah hv1
     clear hS0
     have hS0:=Fq.out wg K5 hL5 h7
     clear hm yX hL5 h7 hv1 Zm
     (refine hK _ _ (fun _=>hS0) ?_;clear hK K;(try simp only[Act.put,lsA,lsB,bV]))
     (repeat ((first|(refine iK (v:=?_) rfl rfl (fun w'=>?_) ?_;rotate_left;(go_simp;with_reducible rfl))|(refine iL (v:=?_) rfl rfl hS0 (fun w' hS=>?_) ?_;rotate_left;((try dsimp only at hS);go_simp;with_reducible rfl))|(refine iM (v:=?_) rfl rfl ?_ ?_;rotate_left;(go_simp;with_reducible rfl))|(refine dF rfl rfl ?_)|(refine dG rfl rfl hS0 ?_)|(refine dH rfl rfl ?_));simp only[Act.put,lsA,lsB,bV]))
     (refine jK rfl rfl (fun K hK=>?_);go_simp)
     refine HM.out.mono ?_
     rintro e wh ⟨K6,rfl,uF,h8⟩
     clear HM
     have hL6:=Mem.le_trans XU.out uF
     have hm:=HC.out.rv wh _ K6 z1 x1 4 (by omega) HP.out.2.2.2 (HI1.out.1.mono (Mem.le_trans HI2.out.2 hL6)) h8
     rw[←XJ.out] at hm
     have HM:=ah hm
     have HL6:=ah hL6
     clear hS0
     have hS0:=Fq.out wh K6 hL6 h8
     clear hm uF hL6 h8 XU
     (refine hK _ _ (fun _=>hS0) ?_;clear hK K;(try simp only[Act.put,lsA,lsB,bV]))
     (repeat ((first|(refine iK (v:=?_) rfl rfl (fun w'=>?_) ?_;rotate_left;(go_simp;with_reducible rfl))|(refine iL (v:=?_) rfl rfl hS0 (fun w' hS=>?_) ?_;rotate_left;((try dsimp only at hS);go_simp;with_reducible rfl))|(refine iM (v:=?_) rfl rfl ?_ ?_;rotate_left;(go_simp;with_reducible rfl))|(refine dF rfl rfl ?_)|(refine dG rfl rfl hS0 ?_)|(refine dH rfl rfl ?_));simp only[Act.put,lsA,lsB,bV]))
     (refine jK rfl rfl (fun K hK=>?_);go_simp)
     refine HM.out.mono ?_
     rintro e wi ⟨K7,rfl,Q7,h9⟩
     clear HM
     have hL7:=Mem.le_trans HL6.out Q7
     have hm:=HC.out.mv wi _ K7 z2 x2 6 (by omega) Zl.out (HI2.out.1.mono hL7) h9
     obtain⟨v2,hv2⟩:=aC (v x2)
     rw[←hv2] at hm
     have HM:=ah hm
     have HL7:=ah hL7
     have kL:=ah hv2
     clear hS0
     have hS0:=Fq.out wi K7 hL7 h9
     clear hm Q7 hL7 h9 hv2 HL6
     (refine hK _ _ (fun _=>hS0) ?_;clear hK K;(try simp only[Act.put,lsA,lsB,bV]))
     (repeat ((first|(refine iK (v:=?_) rfl rfl (fun w'=>?_) ?_;rotate_left;(go_simp;with_reducible rfl))|(refine iL (v:=?_) rfl rfl hS0 (fun w' hS=>?_) ?_;rotate_left;((try dsimp only at hS);go_simp;with_reducible rfl))|(refine iM (v:=?_) rfl rfl ?_ ?_;rotate_left;(go_simp;with_reducible rfl))|(refine dF rfl rfl ?_)|(refine dG rfl rfl hS0 ?_)|(refine dH rfl rfl ?_));simp only[Act.put,lsA,lsB,bV]))
     (refine jK rfl rfl (fun K hK=>?_);go_simp)
     refine HM.out.mono ?_
     rintro e wj ⟨K8,rfl,Zn,h10⟩
     clear HM
     have Z8:=Mem.le_trans HL7.out Zn
     have hm:=HC.out.rv wj _ K8 z2 x2 6 (by omega) Zl.out (HI2.out.1.mono Z8) h10
     rw[←kL.out] at hm
     have HM:=ah hm
     have HL8:=ah Z8
     clear hS0
     have hS0:=Fq.out wj K8 Z8 h10
     clear hm Zn Z8 h10 HL7
     (refine hK _ _ (fun _=>hS0) ?_;clear hK K;(try simp only[Act.put,lsA,lsB,bV]))
     (repeat ((first|(refine iK (v:=?_) rfl rfl (fun w'=>?_) ?_;rotate_left;(go_simp;with_reducible rfl))|(refine iL (v:=?_) rfl rfl hS0 (fun w' hS=>?_) ?_;rotate_left;((try dsimp only at hS);go_simp;with_reducible rfl))|(refine iM (v:=?_) rfl rfl ?_ ?_;rotate_left;(go_simp;with_reducible rfl))|(refine dF rfl rfl ?_)|(refine dG rfl rfl hS0 ?_)|(refine dH rfl rfl ?_));simp only[Act.put,lsA,lsB,bV]))
     (refine jK rfl rfl (fun K hK=>?_);go_simp)
     refine HM.out.mono ?_
     rintro e wk ⟨K9,rfl,Un,h11⟩
     clear HM
     have HF:=ah (And.intro (Mem.le_trans iV.out (Mem.le_trans HL8.out Un)) h11.p1.drop.p1.drop)
     clear hS0 Un h11 HL8
     (refine hK _ _ (fun h=>by cases h) ?_;clear hK K;(try simp only[Act.put,lsA,lsB,bV]))
     (repeat ((first|(refine iK (v:=?_) rfl rfl (fun w'=>?_) ?_;rotate_left;(go_simp;with_reducible rfl))|(refine iL (v:=?_) rfl rfl hS0 (fun w' hS=>?_) ?_;rotate_left;((try dsimp only at hS);go_simp;with_reducible rfl))|(refine iM (v:=?_) rfl rfl ?_ ?_;rotate_left;(go_simp;with_reducible rfl))|(refine dF rfl rfl ?_)|(refine dG rfl rfl hS0 ?_)|(refine dH rfl rfl ?_));simp only[Act.put,lsA,lsB,bV]))
     refine eF ?_
     go_wp2
     go_roundw
     case rel=>exact⟨i+1,K9,by go_num,by have:=LY.out;omega,ah HF.out.1,HF.out.2⟩
     case measure=>simp[intOf];have:=LY.out;omega
   ·obtain rfl:i=n:=by omega
    have HF:=ah hS
    clear hS hlt hi
    go_wp2
    go_meet
    case rel=>exact⟨K,HF.out⟩
 clear H1
 obtain⟨K,hK⟩:=hcut
 have HK:=ah hK
 clear hK
 go_upto_block 2 with (fail)
 go_cut [] from 15 to 97 (fun wx=>∃K:Mem,Sat w wx (sep (kn K) emp))
 case first=>
  as_aux_lemma=>
  go_wp2_with fail
  go_loopw [15] (fun kv wr=>∃(k:Int) (K:Mem),kv=.int .i64 k∧-1≤k∧k≤23∧Sat w wr (sep (kn K) emp)) (fun kv _=>(23-intOf kv).toNat)
  case atStart=>exact⟨-1,_,rfl,by omega,by omega,HK.out⟩
  case round=>
   obtain⟨k,K2,rfl,hk1,hk2,hS⟩:=hrel
   clear HK
   by_cases hlt:k<23
   ·have har:=iy how 13 wr Ap.out.1.1 Ap.out.1.2 (by omega) (by omega)
    have abt:=iJ how 13 (by omega)
    obtain⟨r,hr⟩:=aC (dQ how 13)
    rw[←hr] at har abt
    have hQ0:Q 0 {Pa.zero with k:=k,d:=5,f:=0}:=HC.out.zero k 5 0 ⟨by omega,by omega⟩ ⟨by omega,by omega⟩ ⟨by omega,by omega⟩
    have hsp:=ny (A:=emp) _ _ (1+r) b (NR K2 k 5 0) ⟨by omega,by omega⟩ Ap.out.2.1 (by simp[Pa.zero]) hS
    have Zk:=ah hsp
    have V6:=ah har
    have HQ0:=ah hQ0
    have HKB:Hid (-1≤k∧k<23):=ah ⟨hk1,hlt⟩
    clear har hr hQ0 hsp hS
    go_upto_region 12 with (fail)
    go_wp2_with fail
    refine V6.out.mono ?_
    rintro e w2 ⟨rfl,rfl⟩
    clear V6
    go_wp2_with fail
    refine Zk.out.mono ?_
    rintro e w3 ⟨z1,J2,rfl,hle2,hi1,h3⟩
    have Xz:=HC.out.sp 0 _ (dQ (1+r) 14) b HQ0.out Ap.out.2.1
    obtain⟨x1,hx1⟩:=aC (oJ {Pa.zero with k:=k,d:=5,f:=0} (dQ (1+r) 14) b)
    rw[←hx1] at Xz hi1
    obtain⟨w4,hst,h4⟩:=LZ z1 h3 #[.int .i64 0,.int .i64 0,.int .i64 0,.int .i64 0,.int .i64 0,.int .i64 0,.int .i64 0,.int .i64 0,.int .i64 0,.int .i64 0,.int .i64 0,.slice none 0 0,.slice none 0 0,.slice none 0 0,.slice none 0 0,.int .i64 0,.int .i64 0,.slice none 0 0,.slice none 0 0] rfl
    have H4:=ah (And.intro h4 (And.intro hi1 Xz))
    clear hle2 hi1 Xz h3 h4 hx1 Zk HQ0
    go_upto_region 13 with (fail)
    clear hst
    have F6:=H4.out.1.drew
    obtain⟨wd,hwd⟩:=aC (w4.drew)
    rw[←hwd] at F6
    have hl1:=dN (fun i v hv=>(ay F6 i v hv).1)
    have L6:=iJ also 13 (by omega)
    obtain⟨ra,hra⟩:=aC (dQ also 13)
    rw[←hra] at L6
    have Q8:=iJ b 12 (by omega)
    obtain⟨rb,hrb⟩:=aC (dQ b 12)
    rw[←hrb] at Q8
    have hwr:IntKind.i64.wrap (1+ra)=1+ra:=IntWalk.i64_in _ (by omega)
    have hQ2:=HC.out.sp 2 x1 (dQ (1+ra) 14) rb H4.out.2.2 ⟨by omega,by omega⟩
    have hen:=HC.out.en 2 x1 H4.out.2.2
    obtain⟨x2,hx2⟩:=aC (oJ x1 (dQ (1+ra) 14) rb)
    rw[←hx2] at hQ2
    have PS:=ah hx2
    have Zl:=ah hQ2
    have HR:=ah (And.intro (And.intro hra hrb) (And.intro (And.intro L6 Q8) hen))
    have hT0:Sat w wd (newT (fun i=>if i=2 then some (.int .i64 ra) else if i=3 then some (.int .i64 (1+ra)) else if i=5 then some (.int .i64 rb) else none) 6 7 8 36 #[.int .i64 0,.int .i64 0,.int .i64 0,.int .i64 0,.int .i64 0,.int .i64 0,.int .i64 0,.int .i64 0,.int .i64 0,.int .i64 0,.int .i64 0,.slice none 0 0,.slice none 0 0,.slice none 0 0,.slice none 0 0,.int .i64 0,.int .i64 0,.slice none 0 0,.slice none 0 0] J2 x2 (sep (blk w3.heap.size (.cells z1.cells.toArray 36 (0,0))) emp) (fun _=>none)):=Jm F6.p1 (fun _=>rfl)
    have HT0:=ah hT0
    have nJ:=ah hwd
    clear F6 hwd hra hrb L6 Q8 hQ2 hen hx2 hT0
    refine dA rfl (fun w'=>Sem.run Tryz.prog (eX (.pointer (some ⟨w3.heap.size,0,none⟩))) w'=.ok (.agg z1.cells.toArray) w') [.one 0 .s,.one 1 .p,.one 4 .p,.grp true [(2,[]),(3,[]),(5,[]),(6,[]),(7,[]),(8,[])]] (by kernel_rfl) ?_
    rw[←nJ.out]
    have hS0:Sem.run Tryz.prog (eX (.pointer (some ⟨w3.heap.size,0,none⟩))) wd=.ok (.agg z1.cells.toArray) wd:=hl1
    clear hl1
    (repeat ((first|(refine E5 (v:=?_) rfl rfl (fun w'=>?_) ?_;rotate_left;(go_simp;with_reducible rfl))|(refine E8 (v:=?_) rfl rfl hS0 (fun w' hS=>?_) ?_;rotate_left;((try dsimp only at hS);go_simp;with_reducible rfl))|(refine Fa (v:=?_) rfl rfl ?_ ?_;rotate_left;(go_simp;with_reducible rfl))|(refine oW rfl rfl ?_)|(refine oZ rfl rfl hS0 ?_)|(refine o7 rfl rfl ?_));simp only[Act.put,lsA,lsB,bV]))
    refine vI (n:=6) rfl ?_
    clear hS0
    refine iC [2,3,5,6,7,8] Jj (newT (fun i=>if i=2 then some (.int .i64 ra) else if i=3 then some (.int .i64 (1+ra)) else if i=5 then some (.int .i64 rb) else none) 6 7 8 36 #[.int .i64 0,.int .i64 0,.int .i64 0,.int .i64 0,.int .i64 0,.int .i64 0,.int .i64 0,.int .i64 0,.int .i64 0,.int .i64 0,.int .i64 0,.slice none 0 0,.slice none 0 0,.slice none 0 0,.slice none 0 0,.int .i64 0,.int .i64 0,.slice none 0 0,.slice none 0 0] J2 x2 (sep (blk w3.heap.size (.cells z1.cells.toArray 36 (0,0))) emp)) (by kernel_rfl) (by kernel_rfl) ?_ ?_ ?_ 6 [2,3,5,6,7,8] (fun _=>none) wd rfl (by decide) (fun z=>by simp) (fun _ _ h=>by cases h) HT0.out
    ·intro _ f w' hT
     obtain⟨q,hp,hq⟩:=fO.1 hT
     exact dN (fun i v hv=>(ay hq.p2 i v hv).1)
    ·intro i' hi' f w' o' ho hfi dK hcl hT
     simp only[List.mem_cons,List.not_mem_nil,or_false] at hi'
     have hno:∀y z,y∈[2,3,5,6,7,8]→z∈Jj y→f z=none→f y=none:=fun y z hy hz hf=>by
      cases Ae:f y with
      | none=>rfl
      | some v=>have:=hcl y hy (by rw[Ae];rfl) z hz;rw[hf] at this;cases this
     rcases hi' with rfl|rfl|rfl|rfl|rfl|rfl
     ·as_aux_lemma=>
      cases ho
      refine .inl (.inr ⟨16,#[.int .i64 also,.int .i64 13],w',?_,(iy also 13 w' Ap.out.2.2.1.1 Ap.out.2.2.1.2 (by omega) (by omega)).mono ?_⟩)
      ·(go_simp;try rfl)
      ·rintro e w'' ⟨rfl,rfl⟩
       rw[←HR.out.1.1]
       exact⟨_,rfl,wC rfl (by decide) (by decide) (by decide) hT⟩
     ·as_aux_lemma=>
      cases ho
      obtain⟨v2,hv2⟩:=Option.isSome_iff_exists.1 (dK 2 (by decide))
      obtain⟨q,hp,-⟩:=fO.1 hT
      obtain rfl:=hp.v 2 _ v2 rfl hv2
      refine .inl (.inl ⟨.int .i64 (1+ra),w',?_,wC rfl (by decide) (by decide) (by decide) hT⟩)
      simp[bQ,List.filter,Jj,hv2,aO,Act.put]
      (go_simp;try rw[hwr];try rfl)
     ·as_aux_lemma=>
      cases ho
      refine .inl (.inr ⟨16,#[.int .i64 b,.int .i64 12],w',?_,(iy b 12 w' Ap.out.2.1.1 Ap.out.2.1.2 (by omega) (by omega)).mono ?_⟩)
      ·(go_simp;try rfl)
      ·rintro e w'' ⟨rfl,rfl⟩
       rw[←HR.out.1.2]
       exact⟨_,rfl,wC rfl (by decide) (by decide) (by decide) hT⟩
     ·as_aux_lemma=>
      cases ho
      obtain⟨v3,hv3⟩:=Option.isSome_iff_exists.1 (dK 3 (by decide))
      obtain⟨v5,hv5⟩:=Option.isSome_iff_exists.1 (dK 5 (by decide))
      obtain⟨q,hp,hq⟩:=fO.1 hT
      obtain rfl:=hp.v 3 _ v3 rfl hv3
      obtain rfl:=hp.v 5 _ v5 rfl hv5
      refine .inl (.inr ⟨15,#[.agg z1.cells.toArray,.int .i64 (1+ra),.int .i64 rb],w',?_,(ny z1 x1 (1+ra) rb (H4.out.2.1.mono hp.le) ⟨by have:=HR.out.2.1.1;omega,by have:=HR.out.2.1.1;omega⟩ ⟨by have:=HR.out.2.1.2;omega,by have:=HR.out.2.1.2;omega⟩ (by have:=HR.out.2.2;omega) hq).mono ?_⟩)
      ·simp[bQ,List.filter,Jj,hv3,hv5,aO,Act.put]
       (go_simp;try rfl)
      ·rintro e w'' ⟨z2,J3,rfl,hle3,hi2,h3⟩
       exact⟨_,rfl,Jo hp hle3 (by rw[PS.out];exact hi2) rfl (by decide) (by decide) (hno 8 6 (by decide) (by decide) hfi) h3⟩
     ·as_aux_lemma=>
      cases ho
      refine .inl (.inl ⟨.pointer (some ⟨w'.heap.size,0,none⟩),w'.alloc (.cells #[.int .i64 0,.int .i64 0,.int .i64 0,.int .i64 0,.int .i64 0,.int .i64 0,.int .i64 0,.int .i64 0,.int .i64 0,.int .i64 0,.int .i64 0,.slice none 0 0,.slice none 0 0,.slice none 0 0,.slice none 0 0,.int .i64 0,.int .i64 0,.slice none 0 0,.slice none 0 0] 36),?_,Eo rfl (by decide) (by decide) hfi (hno 8 7 (by decide) (by decide) hfi) hT⟩)
      (go_simp;try rfl)
     ·as_aux_lemma=>
      cases ho
      obtain⟨v6,hv6⟩:=Option.isSome_iff_exists.1 (dK 6 (by decide))
      obtain⟨v7,hv7⟩:=Option.isSome_iff_exists.1 (dK 7 (by decide))
      obtain⟨z2,g,rfl,rfl,⟨R,hR⟩,hst⟩:=Ep (u:=undef) rfl (by decide) (by decide) hv6 hv7 hfi hT
      have hrun:=bK hR.aK rfl z2
      refine .inr ⟨w'.setRow g z2.cells.toArray,?_,hst _ fun R' h'=>h'.setRow _⟩
      simp[bQ,List.filter,Jj,hv6,hv7,aO,Act.put]
      (go_simp;try rfl)
    ·intro f w' hall hT
     obtain⟨v2,hv2⟩:=Option.isSome_iff_exists.1 (hall 2 (by decide))
     obtain⟨v3,hv3⟩:=Option.isSome_iff_exists.1 (hall 3 (by decide))
     obtain⟨v5,hv5⟩:=Option.isSome_iff_exists.1 (hall 5 (by decide))
     obtain⟨v6,hv6⟩:=Option.isSome_iff_exists.1 (hall 6 (by decide))
     obtain⟨v7,hv7⟩:=Option.isSome_iff_exists.1 (hall 7 (by decide))
     obtain⟨v8,PX⟩:=Option.isSome_iff_exists.1 (hall 8 (by decide))
     obtain⟨z2,g,K3,rfl,rfl,hle3,hi2,h3⟩:=Jp hv6 hv7 PX hT
     simp only[bQ,List.foldl,hv2,hv3,hv5,hv6,hv7,PX,aO]
     have HI2:=ah (And.intro hi2 hle3)
     have H3:=ah h3
     clear hT hall hv2 hv3 hv5 hv6 hv7 PX hi2 hle3 h3
     simp only[Act.put,yP,yQ,yR,Option.bind_some,lsA,lsB,bV]
     refine qo ?_
     go_upto_region 14 with (fail)
     have h4':=H3.out.drew
     obtain⟨we,hwe⟩:=aC (w'.drew)
     rw[←hwe] at h4'
     have Fq:Hid (∀wx K',Mem.le K3 K'→Sat w wx (sep (kn K') (sep (blk g (.cells z2.cells.toArray 36 (0,0))) (sep (blk w3.heap.size (.cells z1.cells.toArray 36 (0,0))) emp)))→Sem.run Tryz.prog (eX (.pointer (some ⟨w3.heap.size,0,none⟩))) wx=.ok (.agg z1.cells.toArray) wx∧Sem.run Tryz.prog (eX (.pointer (some ⟨g,0,none⟩))) wx=.ok (.agg z2.cells.toArray) wx):=ah fun wx K' hl h3=>
      ⟨dN (fun i v hv=>(ay h3.p2 i v hv).1),dN (fun i v hv=>(ay h3.p1 i v hv).1)⟩
     have h5:Sat w we (sep (kn K3) (sep (blk g (.cells z2.cells.toArray 36 (0,0))) (sep (blk w3.heap.size (.cells z1.cells.toArray 36 (0,0))) emp))):=h4'.p1
     have hS0:=Fq.out we K3 (Mem.le_refl _) h5
     have hm:=HC.out.mv we _ K3 z1 x1 2 (by omega) H4.out.2.2 (H4.out.2.1.mono HI2.out.2) h5
     obtain⟨v1,hv1⟩:=aC (v x1)
     rw[←hv1] at hm
     have HM:=ah hm
     have XJ:=ah hv1
     have HWE:=ah hwe
     clear h4' h5 hm hwe hv1 H3
     refine aG rfl (fun wx=>Sem.run Tryz.prog (eX (.pointer (some ⟨w3.heap.size,0,none⟩))) wx=.ok (.agg z1.cells.toArray) wx∧Sem.run Tryz.prog (eX (.pointer (some ⟨g,0,none⟩))) wx=.ok (.agg z2.cells.toArray) wx) [(0,.t),(2,.s),(1,.e true),(3,.e true),(4,.p),(5,.p),(6,.t),(8,.s),(7,.e true),(9,.e false),(10,.p),(11,.p)] (by kernel_rfl) ?_
     rw[←HWE.out]
     (repeat ((first|(refine iK (v:=?_) rfl rfl (fun w'=>?_) ?_;rotate_left;(go_simp;with_reducible rfl))|(refine iL (v:=?_) rfl rfl hS0 (fun w' hS=>?_) ?_;rotate_left;((try dsimp only at hS);go_simp;with_reducible rfl))|(refine iM (v:=?_) rfl rfl ?_ ?_;rotate_left;(go_simp;with_reducible rfl))|(refine dF rfl rfl ?_)|(refine dG rfl rfl hS0 ?_)|(refine dH rfl rfl ?_));simp only[Act.put,lsA,lsB,bV]))
     (refine jK rfl rfl (fun K hK=>?_);go_simp)
     refine HM.out.mono ?_
     rintro e wf ⟨K4,rfl,pO,h6⟩
     clear HM
     have hm:=HC.out.rv wf _ K4 z1 x1 2 (by omega) H4.out.2.2 (H4.out.2.1.mono (Mem.le_trans HI2.out.2 pO)) h6
     rw[←XJ.out] at hm
     have HM:=ah hm
     have Zm:=ah pO
     clear hS0
     have hS0:=Fq.out wf K4 pO h6
     clear hm pO h6
     (refine hK _ _ (fun _=>hS0) ?_;clear hK K;(try simp only[Act.put,lsA,lsB,bV]))
     (repeat ((first|(refine iK (v:=?_) rfl rfl (fun w'=>?_) ?_;rotate_left;(go_simp;with_reducible rfl))|(refine iL (v:=?_) rfl rfl hS0 (fun w' hS=>?_) ?_;rotate_left;((try dsimp only at hS);go_simp;with_reducible rfl))|(refine iM (v:=?_) rfl rfl ?_ ?_;rotate_left;(go_simp;with_reducible rfl))|(refine dF rfl rfl ?_)|(refine dG rfl rfl hS0 ?_)|(refine dH rfl rfl ?_));simp only[Act.put,lsA,lsB,bV]))
     (refine jK rfl rfl (fun K hK=>?_);go_simp)
     refine HM.out.mono ?_
     rintro e wg ⟨K5,rfl,yX,h7⟩
     clear HM
     have hL5:=Mem.le_trans Zm.out yX
     have hm:=HC.out.mv wg _ K5 z2 x2 4 (by omega) Zl.out (HI2.out.1.mono hL5) h7
     obtain⟨v2',XA⟩:=aC (v x2)
     rw[←XA] at hm
     have HM:=ah hm
     have XU:=ah hL5
     have kL:=ah XA
     clear hS0
     have hS0:=Fq.out wg K5 hL5 h7
     clear hm yX hL5 h7 XA Zm
     (refine hK _ _ (fun _=>hS0) ?_;clear hK K;(try simp only[Act.put,lsA,lsB,bV]))
     (repeat ((first|(refine iK (v:=?_) rfl rfl (fun w'=>?_) ?_;rotate_left;(go_simp;with_reducible rfl))|(refine iL (v:=?_) rfl rfl hS0 (fun w' hS=>?_) ?_;rotate_left;((try dsimp only at hS);go_simp;with_reducible rfl))|(refine iM (v:=?_) rfl rfl ?_ ?_;rotate_left;(go_simp;with_reducible rfl))|(refine dF rfl rfl ?_)|(refine dG rfl rfl hS0 ?_)|(refine dH rfl rfl ?_));simp only[Act.put,lsA,lsB,bV]))
     (refine jK rfl rfl (fun K hK=>?_);go_simp)
     refine HM.out.mono ?_
     rintro e wh ⟨K6,rfl,uF,h8⟩
     clear HM
     have hm:=HC.out.rv wh _ K6 z2 x2 4 (by omega) Zl.out (HI2.out.1.mono (Mem.le_trans XU.out uF)) h8
     rw[←kL.out] at hm
     have HM:=ah hm
     clear hS0
     have hS0:=Fq.out wh K6 (Mem.le_trans XU.out uF) h8
     clear hm uF h8 XU
     (refine hK _ _ (fun _=>hS0) ?_;clear hK K;(try simp only[Act.put,lsA,lsB,bV]))
     (repeat ((first|(refine iK (v:=?_) rfl rfl (fun w'=>?_) ?_;rotate_left;(go_simp;with_reducible rfl))|(refine iL (v:=?_) rfl rfl hS0 (fun w' hS=>?_) ?_;rotate_left;((try dsimp only at hS);go_simp;with_reducible rfl))|(refine iM (v:=?_) rfl rfl ?_ ?_;rotate_left;(go_simp;with_reducible rfl))|(refine dF rfl rfl ?_)|(refine dG rfl rfl hS0 ?_)|(refine dH rfl rfl ?_));simp only[Act.put,lsA,lsB,bV]))
     (refine jK rfl rfl (fun K hK=>?_);go_simp)
     refine HM.out.mono ?_
     rintro e wk ⟨K9,rfl,Un,h11⟩
     clear HM
     have HF:=ah h11.p1.drop.p1.drop
     clear hS0 Un h11
     (refine hK _ _ (fun h=>by cases h) ?_;clear hK K;(try simp only[Act.put,lsA,lsB,bV]))
     (repeat ((first|(refine iK (v:=?_) rfl rfl (fun w'=>?_) ?_;rotate_left;(go_simp;with_reducible rfl))|(refine iL (v:=?_) rfl rfl hS0 (fun w' hS=>?_) ?_;rotate_left;((try dsimp only at hS);go_simp;with_reducible rfl))|(refine iM (v:=?_) rfl rfl ?_ ?_;rotate_left;(go_simp;with_reducible rfl))|(refine dF rfl rfl ?_)|(refine dG rfl rfl hS0 ?_)|(refine dH rfl rfl ?_));simp only[Act.put,lsA,lsB,bV]))
     refine eF ?_
     go_wp2
     go_roundw
     case rel=>exact⟨k+1,K9,by go_num,by have:=HKB.out.1;omega,by have:=HKB.out.2;omega,HF.out⟩
     case measure=>simp[intOf];have:=HKB.out.2;omega
   ·obtain rfl:k=23:=by omega
    have HF:=ah hS
    clear hS hlt hk1 hk2
    go_wp2
    go_meet
    case rel=>exact⟨K2,HF.out⟩
 clear HK
 as_aux_lemma=>
 obtain⟨K,hK⟩:=hcut
 have har:=iy b 5000 wc Ap.out.2.1.1 Ap.out.2.1.2 (by omega) (by omega)
 have hlt:=iJ b 5000 (by omega)
 obtain⟨f,hf⟩:=aC (dQ b 5000)
 rw[←hf] at har hlt
 obtain⟨z,hzz⟩:∃z:Ac,z=⟨kind,0,0,f,0,0,0,0,0,0,0,Sv.none,Sv.none,Sv.none,Sv.none,0,0,Sv.none,Sv.none⟩:=⟨_,rfl⟩
 have hzi:=NR K kind 0 f
 rw[←hzz] at hzi
 obtain⟨wa,hst,Qg⟩:=LZ z hK #[.int .i64 0,.int .i64 0,.int .i64 0,.int .i64 0,.int .i64 0,.int .i64 0,.int .i64 0,.int .i64 0,.int .i64 0,.int .i64 0,.int .i64 0,.slice none 0 0,.slice none 0 0,.slice none 0 0,.slice none 0 0,.int .i64 0,.int .i64 0,.slice none 0 0,.slice none 0 0] rfl
 have hst2:Sem.run Tryz.prog (Jl (.pointer (some ⟨wc.heap.size,0,none⟩)) (.agg #[.int .i64 kind,.int .i64 0,.int .i64 0,.int .i64 f,.int .i64 0,.int .i64 0,.int .i64 0,.int .i64 0,.int .i64 0,.int .i64 0,.int .i64 0,.slice none 0 0,.slice none 0 0,.slice none 0 0,.slice none 0 0,.int .i64 0,.int .i64 0,.slice none 0 0,.slice none 0 0])) (wc.alloc (.cells #[.int .i64 0,.int .i64 0,.int .i64 0,.int .i64 0,.int .i64 0,.int .i64 0,.int .i64 0,.int .i64 0,.int .i64 0,.int .i64 0,.int .i64 0,.slice none 0 0,.slice none 0 0,.slice none 0 0,.slice none 0 0,.int .i64 0,.int .i64 0,.slice none 0 0,.slice none 0 0] 36))=.ok () wa:=by rw[hzz] at hst;exact hst
 clear hst
 have hQ:Q 0 {Pa.zero with k:=kind,d:=0,f:=f}:=HC.out.zero kind 0 f Ap.out.2.2.2 ⟨by omega,by omega⟩ ⟨by omega,by omega⟩
 obtain⟨x,hx⟩:∃x:Pa,x={Pa.zero with k:=kind,d:=0,f:=f}:=⟨_,rfl⟩
 rw[←hx] at hQ hzi
 have hwb:=Qg.drew
 obtain⟨wd,hwd⟩:=aC (wa.drew)
 rw[←hwd] at hwb
 have hld:=dN (fun i v hv=>(ay hwb i v hv).1)
 have hwk:Sat w wd (sep (kn K) (sep (blk wc.heap.size (.cells z.cells.toArray 36 (0,0))) emp)):=hwb.p1
 have hmv:=HC.out.mv wd _ K z x 0 (by omega) hQ hzi hwk
 obtain⟨rv,dJ⟩:=aC (v x)
 rw[←dJ] at hmv
 have HV:=ah hmv
 have HW:=ah (And.intro hwk (And.intro hzi (And.intro hQ (And.intro dJ hwd))))
 have V6:=ah har
 clear hK hf hzz hzi hlt Qg hwb har hx hQ hwk dJ hwd hmv
 go_wp2_with fail
 refine V6.out.mono ?_
 rintro e w2 ⟨rfl,rfl⟩
 clear V6
 go_upto_region 17 with (fail)
 refine aG rfl (fun w'=>Sem.run Tryz.prog (eX (.pointer (some ⟨wc.heap.size,0,none⟩))) w'=.ok (.agg z.cells.toArray) w') [(0,.t),(2,.s),(1,.e true),(3,.e false),(4,.p),(5,.p),(6,.e false),(7,.p),(8,.p)] (by kernel_rfl) ?_
 rw[←HW.out.2.2.2.2]
 have hS0:Sem.run Tryz.prog (eX (.pointer (some ⟨wc.heap.size,0,none⟩))) wd=.ok (.agg z.cells.toArray) wd:=hld
 clear hst2
 (repeat ((first|(refine iK (v:=?_) rfl rfl (fun w'=>?_) ?_;rotate_left;(go_simp;with_reducible rfl))|(refine iL (v:=?_) rfl rfl hS0 (fun w' hS=>?_) ?_;rotate_left;((try dsimp only at hS);go_simp;with_reducible rfl))|(refine iM (v:=?_) rfl rfl ?_ ?_;rotate_left;(go_simp;with_reducible rfl))|(refine dF rfl rfl ?_)|(refine dG rfl rfl hS0 ?_)|(refine dH rfl rfl ?_));simp only[Act.put,lsA,lsB,bV]))
 (refine jK rfl rfl (fun K hK=>?_);go_simp)
 refine HV.out.mono ?_
 rintro e w5 ⟨K2,rfl,hle2,h5⟩
 have hl5:Sem.run Tryz.prog (eX (.pointer (some ⟨wc.heap.size,0,none⟩))) w5=.ok (.agg z.cells.toArray) w5:=dN (fun i v hv=>(ay h5.p1 i v hv).1)
 have hmv:=HC.out.rv w5 _ K2 z x 0 (by omega) HW.out.2.2.1 (HW.out.2.1.mono hle2) h5
 rw[←HW.out.2.2.2.1] at hmv
 have kL:=ah hmv
 clear hmv h5 hld hS0 HV
 (refine hK _ _ (fun _=>hl5) ?_;clear hK K;(try simp only[Act.put,lsA,lsB,bV]))
 (repeat ((first|(refine iK (v:=?_) rfl rfl (fun w'=>?_) ?_;rotate_left;(go_simp;with_reducible rfl))|(refine iL (v:=?_) rfl rfl hS0 (fun w' hS=>?_) ?_;rotate_left;((try dsimp only at hS);go_simp;with_reducible rfl))|(refine iM (v:=?_) rfl rfl ?_ ?_;rotate_left;(go_simp;with_reducible rfl))|(refine dF rfl rfl ?_)|(refine dG rfl rfl hS0 ?_)|(refine dH rfl rfl ?_));simp only[Act.put,lsA,lsB,bV]))
 (refine jK rfl rfl (fun K hK=>?_);go_simp)
 refine kL.out.mono ?_
 rintro e w6 ⟨K3,rfl,hle3,h6⟩
 have HL:=ah (HC.out.lv w6 _ h6)
 clear h6 hl5
 (refine hK _ _ (fun h=>by cases h) ?_;clear hK K;(try simp only[Act.put,lsA,lsB,bV]))
 (repeat ((first|(refine iK (v:=?_) rfl rfl (fun w'=>?_) ?_;rotate_left;(go_simp;with_reducible rfl))|(refine iL (v:=?_) rfl rfl hS0 (fun w' hS=>?_) ?_;rotate_left;((try dsimp only at hS);go_simp;with_reducible rfl))|(refine iM (v:=?_) rfl rfl ?_ ?_;rotate_left;(go_simp;with_reducible rfl))|(refine dF rfl rfl ?_)|(refine dG rfl rfl hS0 ?_)|(refine dH rfl rfl ?_));simp only[Act.put,lsA,lsB,bV]))
 (refine jK rfl rfl (fun K hK=>?_);go_simp)
 refine HL.out.mono ?_
 rintro e w7 ⟨rfl,h7⟩
 have H7:=ah h7
 clear h7
 (refine hK _ _ (fun h=>by cases h) ?_;clear hK K;(try simp only[Act.put,lsA,lsB,bV]))
 (repeat ((first|(refine iK (v:=?_) rfl rfl (fun w'=>?_) ?_;rotate_left;(go_simp;with_reducible rfl))|(refine iL (v:=?_) rfl rfl hS0 (fun w' hS=>?_) ?_;rotate_left;((try dsimp only at hS);go_simp;with_reducible rfl))|(refine iM (v:=?_) rfl rfl ?_ ?_;rotate_left;(go_simp;with_reducible rfl))|(refine dF rfl rfl ?_)|(refine dG rfl rfl hS0 ?_)|(refine dH rfl rfl ?_));simp only[Act.put,lsA,lsB,bV]))
 refine eF ?_
 go_wp2
 go_ret
 exact⟨rfl,H7.out.below⟩
end Go.Proofs.YthfmaclnccdcbaaGreatDoor

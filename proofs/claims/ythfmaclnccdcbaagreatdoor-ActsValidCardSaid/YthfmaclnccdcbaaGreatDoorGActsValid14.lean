/- Part of a proof. -/
import Derived.Test.YthfmaclnccdcbaaGreatDoorGActsValid13
import Derived.Laws.EntriesVeiled
namespace PA
open Go Go.RowKit
def Qv:Nat→List Nat:=fun x=>if x=13 then [11] else if x=14 then [12] else []
def yS (E i j:Nat) (cs:List Value) (f:Nat→Option Value):aB:=
 match f i with
 | none=>emp
 | some v=>ex fun g:Nat=>sep (fact (v=.pointer (some ⟨g,0,none⟩))) (blk g (.cells (match f j with|none=>#[.int .i64 0,.int .i64 0,.int .i64 0,.bool false]|some _=>cs.toArray) E (0,0)))
theorem og {E i j:Nat} {cs:List Value} {f:Nat→Option Value} (h:f i=none):yS E i j cs f=emp:=by unfold yS;rw[h]
theorem vG {E i j:Nat} {cs:List Value} {f:Nat→Option Value} {v:Value} {y:Nat} (h1:i≠y) (h2:j≠y):yS E i j cs (dU f y v)=yS E i j cs f:=by unfold yS;rw[aH h1,aH h2]
theorem qQ {W w:World} {E i j:Nat} {cs:List Value} {f:Nat→Option Value} {v:Value} {R:aB} (h:f i=some v) (h2:f j=none):Sat W w (sep (yS E i j cs f) R)↔∃g,v=.pointer (some ⟨g,0,none⟩)∧Sat W w (sep (blk g (.cells #[.int .i64 0,.int .i64 0,.int .i64 0,.bool false] E (0,0))) R):=by
 unfold yS;rw[h,h2];simp only;rw[fB,Sat.ex]
 constructor
 ·rintro⟨g,h⟩;rw[aj] at h;exact⟨g,Sat.fact.1 h⟩
 ·rintro⟨g,h⟩;exact⟨g,by rw[aj];exact Sat.fact.2 h⟩
theorem oq {W w:World} {E i j:Nat} {cs:List Value} {f:Nat→Option Value} {v u:Value} {R:aB} (h:f i=some v) (h2:f j=some u):Sat W w (sep (yS E i j cs f) R)↔∃g,v=.pointer (some ⟨g,0,none⟩)∧Sat W w (sep (blk g (.cells cs.toArray E (0,0))) R):=by
 unfold yS;rw[h,h2];simp only;rw[fB,Sat.ex]
 constructor
 ·rintro⟨g,h⟩;rw[aj] at h;exact⟨g,Sat.fact.1 h⟩
 ·rintro⟨g,h⟩;exact⟨g,by rw[aj];exact Sat.fact.2 h⟩
theorem DY {W w:World} {E i j:Nat} {cs:List Value} {f:Nat→Option Value} {R:aB} (h:Sat W w (sep (yS E i j cs f) R)):Sat W w R:=by
 cases hi:f i with
 | none=>rw[og hi,fZ] at h;exact h
 | some v=>
  cases hj:f j with
  | none=>obtain⟨g,-,h1⟩:=(qQ hi hj).1 h;exact h1.drop
  | some u=>obtain⟨g,-,h1⟩:=(oq hi hj).1 h;exact h1.drop
def yh (E:Nat) (lo hi:List Value) (X:aB) (f:Nat→Option Value):aB:=sep (yS E 11 13 lo f) (sep (yS E 12 14 hi f) X)
end PA
namespace Go.Proofs.YthfmaclnccdcbaaGreatDoor
open Go.RowKit PA
set_option maxRecDepth 100000 in
set_option maxHeartbeats 4000000 in
theorem uw {W w:World} {A:aB} (x:Iv) (h:Sat W w A):
 Calls Tryz.prog 214 #[.agg (IB x)] w fun e w'=>e=.returned (.tuple #[.agg (zY x).cs.toArray,.agg (zZ x).cs.toArray])∧Sat W w' A:=by
 obtain⟨ln,ld,hn,hd,lo,ho,li,hi⟩:=x
 have h1:=((h.alloc (.cells #[.int .i64 ln,.int .i64 ld,.int .i64 hn,.int .i64 hd,.bool lo,.bool ho,.bool li,.bool hi] 159)).alloc (.cells #[.int .i64 0,.int .i64 0,.int .i64 0,.bool false] 223)).alloc (.cells #[.int .i64 0,.int .i64 0,.int .i64 0,.bool false] 223)
 simp only[World.size_alloc] at h1
 obtain⟨B,hB⟩:=aC (w.heap.size)
 obtain⟨w1,hw1⟩:=aC (((w.alloc (.cells #[.int .i64 ln,.int .i64 ld,.int .i64 hn,.int .i64 hd,.bool lo,.bool ho,.bool li,.bool hi] 159)).alloc (.cells #[.int .i64 0,.int .i64 0,.int .i64 0,.bool false] 223)).alloc (.cells #[.int .i64 0,.int .i64 0,.int .i64 0,.bool false] 223))
 rw[←hB,←hw1] at h1
 have HB:=ah (And.intro hB hw1)
 obtain⟨X,hX⟩:=aC (sep (blk (B+2) (.cells #[.int .i64 0,.int .i64 0,.int .i64 0,.bool false] 223 (0,0))) (sep (blk (B+1) (.cells #[.int .i64 0,.int .i64 0,.int .i64 0,.bool false] 223 (0,0))) (sep (blk B (.cells #[.int .i64 ln,.int .i64 ld,.int .i64 hn,.int .i64 hd,.bool lo,.bool ho,.bool li,.bool hi] 159 (0,0))) A)))
 have hd1:Sat W w1.drew X:=by rw[hX];exact h1.drew
 obtain⟨wd,hwd⟩:=aC (w1.drew)
 rw[←hwd] at hd1
 have nJ:=ah hwd
 have HX:=ah hX
 have HT0:Hid (Sat W wd (yh 223 [.int .i64 0,.int .i64 ln,.int .i64 ld,.bool lo] [.int .i64 0,.int .i64 hn,.int .i64 hd,.bool !ho] X (fun _=>none))):=ah (by
  unfold yh;rw[og rfl,og rfl,fZ,fZ];exact hd1)
 have vH:Hid (∀w',Sat W w' X→w'.cell? ⟨B,0,none⟩=some (.int .i64 ln)∧w'.cell? ⟨B,1,none⟩=some (.int .i64 ld)∧w'.cell? ⟨B,2,none⟩=some (.int .i64 hn)∧w'.cell? ⟨B,3,none⟩=some (.int .i64 hd)∧w'.cell? ⟨B,4,none⟩=some (.bool lo)∧w'.cell? ⟨B,5,none⟩=some (.bool ho)):=ah fun w' h'=>by
  rw[HX.out] at h'
  have h2:=IC h'.p2
  exact⟨h2.1,h2.2.1,h2.2.2.1,h2.2.2.2.1,h2.2.2.2.2.1,h2.2.2.2.2.2.1⟩
 have VD:Hid (∀w' Y,Sat W w' (sep X Y)→w'.cell? ⟨B,6,none⟩=some (.bool li)∧w'.cell? ⟨B,7,none⟩=some (.bool hi)):=ah fun w' Y h'=>by
  rw[HX.out] at h'
  simp only[aj] at h'
  have h2:=IC h'.p2
  exact⟨h2.2.2.2.2.2.2.1,h2.2.2.2.2.2.2.2⟩
 have hS0:=vH.out wd hd1
 clear h h1 hB hw1 hd1 hwd hX
 unfold IB
 go_enter Tryz.func214,Tryz.ntmps214
 go_upto_region 1 with (fail)
 rw[←HB.out.1,←HB.out.2]
 go_cut [4,5] from 6 to 17 (fun u v wx=>∃g1 g2:Nat,u=.pointer (some ⟨g1,0,none⟩)∧v=.pointer (some ⟨g2,0,none⟩)∧Sat W wx (sep (blk g1 (.cells #[.int .i64 0,.int .i64 ln,.int .i64 ld,.bool lo] 223 (0,0))) (sep (blk g2 (.cells #[.int .i64 0,.int .i64 hn,.int .i64 hd,.bool !ho] 223 (0,0))) X)))
 case first=>
  as_aux_lemma=>
  refine dA rfl (fun w'=>w'.cell? ⟨B,0,none⟩=some (.int .i64 ln)∧w'.cell? ⟨B,1,none⟩=some (.int .i64 ld)∧w'.cell? ⟨B,2,none⟩=some (.int .i64 hn)∧w'.cell? ⟨B,3,none⟩=some (.int .i64 hd)∧w'.cell? ⟨B,4,none⟩=some (.bool lo)∧w'.cell? ⟨B,5,none⟩=some (.bool ho)) [.one 0 .p,.one 1 .s,.one 2 .p,.one 3 .s,.one 4 .p,.one 5 .p,.one 6 .s,.one 7 .p,.one 8 .s,.one 9 .p,.one 10 .p,.grp true [(11,[]),(12,[]),(13,[]),(14,[])]] (by kernel_rfl) ?_
  rw[←nJ.out]
  (repeat ((first|(refine E5 (v:=?_) rfl rfl (fun w'=>?_) ?_;rotate_left;(go_simp;with_reducible rfl))|(refine E8 (v:=?_) rfl rfl hS0 (fun w' hS=>?_) ?_;rotate_left;((try dsimp only at hS);go_simp;with_reducible rfl))|(refine Fa (v:=?_) rfl rfl ?_ ?_;rotate_left;(go_simp;with_reducible rfl))|(refine oW rfl rfl ?_)|(refine oZ rfl rfl hS0 ?_)|(refine o7 rfl rfl ?_));simp only[Act.put,lsA,lsB,bV]))
  refine vI (n:=4) rfl ?_
  clear hS0
  refine iC [11,12,13,14] Qv (yh 223 [.int .i64 0,.int .i64 ln,.int .i64 ld,.bool lo] [.int .i64 0,.int .i64 hn,.int .i64 hd,.bool !ho] X) (by kernel_rfl) (by kernel_rfl) ?_ ?_ ?_ 4 [11,12,13,14] (fun _=>none) wd rfl (by decide) (fun z=>by simp) (fun _ _ h=>by cases h) HT0.out
  ·intro _ f w' hT
   exact vH.out w' (DY (DY hT))
  ·intro y hy f w' o' ho Ae dK hcl hT
   simp only[List.mem_cons,List.not_mem_nil,or_false] at hy
   rcases hy with rfl|rfl|rfl|rfl
   ·as_aux_lemma=>
    cases ho
    have h13:f 13=none:=by
     cases h10:f 13 with
     | none=>rfl
     | some v=>have:=hcl 13 (by decide) (by rw[h10];rfl) 11 (by decide);rw[Ae] at this;cases this
    unfold yh at hT ⊢
    rw[og Ae,fZ] at hT
    refine .inl (.inl ⟨.pointer (some ⟨w'.heap.size,0,none⟩),w'.alloc (.cells #[.int .i64 0,.int .i64 0,.int .i64 0,.bool false] 223),?_,?_⟩)
    ·(go_simp;try rfl)
    ·show Sat W _ (sep _ (sep _ _))
     rw[qQ bM (by rw[aH (by decide)];exact h13),vG (by decide) (by decide)]
     exact⟨_,rfl,hT.alloc _⟩
   ·as_aux_lemma=>
    cases ho
    have Ik:f 14=none:=by
     cases h10:f 14 with
     | none=>rfl
     | some v=>have:=hcl 14 (by decide) (by rw[h10];rfl) 12 (by decide);rw[Ae] at this;cases this
    unfold yh at hT ⊢
    rw[og Ae,fZ] at hT
    refine .inl (.inl ⟨.pointer (some ⟨w'.heap.size,0,none⟩),w'.alloc (.cells #[.int .i64 0,.int .i64 0,.int .i64 0,.bool false] 223),?_,?_⟩)
    ·(go_simp;try rfl)
    ·show Sat W _ (sep _ (sep _ _))
     rw[ak,qQ bM (by rw[aH (by decide)];exact Ik),vG (by decide) (by decide)]
     exact⟨_,rfl,hT.alloc _⟩
   ·as_aux_lemma=>
    cases ho
    obtain⟨v11,vJ⟩:=Option.isSome_iff_exists.1 (dK 11 (by decide))
    unfold yh at hT ⊢
    obtain⟨g,rfl,h2⟩:=(qQ vJ Ae).1 hT
    obtain⟨k0,k1,k2,k3⟩:=oP h2
    obtain⟨u0,u1,u2,u3⟩:=jH h2
    refine .inr ⟨(((w'.setCell ⟨g,0,none⟩ (.int .i64 0)).setCell ⟨g,1,none⟩ (.int .i64 ln)).setCell ⟨g,2,none⟩ (.int .i64 ld)).setCell ⟨g,3,none⟩ (.bool lo),?_,?_⟩
    ·simp[bQ,List.filter,Qv,vJ,aO,Act.put]
     (go_simp;try rfl)
    ·show Sat W _ (sep _ (sep _ _))
     rw[oq (by rw[aH (by decide)];exact vJ) bM,vG (by decide) (by decide)]
     exact⟨g,rfl,iI h2 _ _ _ _⟩
   ·as_aux_lemma=>
    cases ho
    obtain⟨v12,kC⟩:=Option.isSome_iff_exists.1 (dK 12 (by decide))
    unfold yh at hT ⊢
    rw[ak] at hT
    obtain⟨g,rfl,h2⟩:=(qQ kC Ae).1 hT
    obtain⟨k0,k1,k2,k3⟩:=oP h2
    obtain⟨u0,u1,u2,u3⟩:=jH h2
    refine .inr ⟨(((w'.setCell ⟨g,0,none⟩ (.int .i64 0)).setCell ⟨g,1,none⟩ (.int .i64 hn)).setCell ⟨g,2,none⟩ (.int .i64 hd)).setCell ⟨g,3,none⟩ (.bool !ho),?_,?_⟩
    ·simp[bQ,List.filter,Qv,kC,aO,Act.put]
     (go_simp;try rfl)
    ·show Sat W _ (sep _ (sep _ _))
     rw[ak,oq (by rw[aH (by decide)];exact kC) bM,vG (by decide) (by decide)]
     exact⟨g,rfl,iI h2 _ _ _ _⟩
  ·as_aux_lemma=>
   intro f w' hall hT
   obtain⟨v11,vJ⟩:=Option.isSome_iff_exists.1 (hall 11 (by decide))
   obtain⟨v12,kC⟩:=Option.isSome_iff_exists.1 (hall 12 (by decide))
   obtain⟨v13,IE⟩:=Option.isSome_iff_exists.1 (hall 13 (by decide))
   obtain⟨v14,KY⟩:=Option.isSome_iff_exists.1 (hall 14 (by decide))
   unfold yh at hT
   obtain⟨g1,rfl,h2⟩:=(oq vJ IE).1 hT
   rw[ak] at h2
   obtain⟨g2,rfl,h3⟩:=(oq kC KY).1 h2
   rw[ak] at h3
   have H3:=ah h3
   simp only[bQ,List.foldl,vJ,kC,IE,KY,aO]
   clear h3 h2 hT hall vJ kC IE KY
   simp only[Act.put,yP,yQ,yR,Option.bind_some,lsA,lsB,bV]
   refine qo ?_
   go_wp2
   go_meet
   case rel=>exact⟨g1,g2,rfl,rfl,H3.out⟩
 case rest=>
  obtain⟨g1,g2,rfl,rfl,hS⟩:=hcut
  clear HT0 vH hS0 HB nJ
  cases li with
  | false=>
   cases hi with
   | false=>
    as_aux_lemma=>
    have cl:=(VD.out wc _ (show Sat W wc (sep X (sep (blk g1 (.cells #[.int .i64 0,.int .i64 ln,.int .i64 ld,.bool lo] 223 (0,0))) (blk g2 (.cells #[.int .i64 0,.int .i64 hn,.int .i64 hd,.bool (!ho)] 223 (0,0))))) by simpa only[au,ak,aj] using hS)).1
    have H2:=ah hS.p1
    clear hS
    go_upto_region 4 with (fail)
    clear cl
    have ch:=(VD.out wc _ (show Sat W wc (sep X (sep (blk g1 (.cells #[.int .i64 0,.int .i64 ln,.int .i64 ld,.bool lo] 223 (0,0))) (blk g2 (.cells #[.int .i64 0,.int .i64 hn,.int .i64 hd,.bool (!ho)] 223 (0,0))))) by simpa only[au,ak,aj] using H2.out)).2
    have H3:=ah H2.out.p1
    clear H2
    go_upto_region 6 with (fail)
    clear ch
    have hD:=H3.out.drew
    obtain⟨wd,hwd⟩:=aC (wc.drew)
    rw[←hwd] at hD
    have nJ:=ah hwd
    obtain⟨a0,a1,a2,a3⟩:=oP hD
    have hS0:wd.cell? ⟨g2,0,none⟩=some (.int .i64 0)∧wd.cell? ⟨g2,1,none⟩=some (.int .i64 hn)∧wd.cell? ⟨g2,2,none⟩=some (.int .i64 hd)∧wd.cell? ⟨g2,3,none⟩=some (.bool (!ho)):=oP hD.p1
    rw[HX.out] at hD
    have r1:=hD.p3
    obtain⟨b0,b1,b2,b3⟩:=oP r1
    obtain⟨c0,c1,c2,c3⟩:=jH r1
    have h5:=iI r1 (.int .i64 0) (.int .i64 ln) (.int .i64 ld) (.bool lo)
    obtain⟨w5,hw5⟩:=aC ((((wd.setCell ⟨B+1,0,none⟩ (.int .i64 0)).setCell ⟨B+1,1,none⟩ (.int .i64 ln)).setCell ⟨B+1,2,none⟩ (.int .i64 ld)).setCell ⟨B+1,3,none⟩ (.bool lo))
    rw[←hw5] at h5
    have IG:=ah hw5
    have G7:Hid (w5.cell? ⟨g2,0,none⟩=some (.int .i64 0)∧w5.cell? ⟨g2,1,none⟩=some (.int .i64 hn)∧w5.cell? ⟨g2,2,none⟩=some (.int .i64 hd)∧w5.cell? ⟨g2,3,none⟩=some (.bool (!ho))):=ah (oP h5.p2)
    have r2:=h5.p3
    obtain⟨d0,d1,d2,d3⟩:=oP r2
    obtain⟨e0,e1,e2,e3⟩:=jH r2
    have h6:=iI r2 (.int .i64 0) (.int .i64 hn) (.int .i64 hd) (.bool (!ho))
    obtain⟨w6,hw6⟩:=aC ((((w5.setCell ⟨B+2,0,none⟩ (.int .i64 0)).setCell ⟨B+2,1,none⟩ (.int .i64 hn)).setCell ⟨B+2,2,none⟩ (.int .i64 hd)).setCell ⟨B+2,3,none⟩ (.bool (!ho)))
    rw[←hw6] at h6
    have KZ:=ah hw6
    have HR2:Hid (w6.cell? ⟨B+2,0,none⟩=some (.int .i64 0)∧w6.cell? ⟨B+2,1,none⟩=some (.int .i64 hn)∧w6.cell? ⟨B+2,2,none⟩=some (.int .i64 hd)∧w6.cell? ⟨B+2,3,none⟩=some (.bool (!ho))):=ah (oP h6)
    have HR1:Hid (w6.cell? ⟨B+1,0,none⟩=some (.int .i64 0)∧w6.cell? ⟨B+1,1,none⟩=some (.int .i64 ln)∧w6.cell? ⟨B+1,2,none⟩=some (.int .i64 ld)∧w6.cell? ⟨B+1,3,none⟩=some (.bool lo)):=ah (oP h6.p1)
    have H6:=ah h6.forget.forget.forget.forget.forget
    clear hwd hD r1 h5 hw5 r2 h6 hw6 H3
    refine aG rfl (fun w'=>w'.cell? ⟨g2,0,none⟩=some (.int .i64 0)∧w'.cell? ⟨g2,1,none⟩=some (.int .i64 hn)∧w'.cell? ⟨g2,2,none⟩=some (.int .i64 hd)∧w'.cell? ⟨g2,3,none⟩=some (.bool (!ho))) [(0,.t),(1,.s),(2,.e true),(3,.e false)] (by kernel_rfl) ?_
    rw[←nJ.out]
    (repeat ((first|(refine iK (v:=?_) rfl rfl (fun w'=>?_) ?_;rotate_left;(go_simp;with_reducible rfl))|(refine iL (v:=?_) rfl rfl hS0 (fun w' hS=>?_) ?_;rotate_left;((try dsimp only at hS);go_simp;with_reducible rfl))|(refine iM (v:=?_) rfl rfl ?_ ?_;rotate_left;(go_simp;with_reducible rfl))|(refine dF rfl rfl ?_)|(refine dG rfl rfl hS0 ?_)|(refine dH rfl rfl ?_));simp only[Act.put,lsA,lsB,bV]))
    clear a0 a1 a2 a3
    (refine jK rfl rfl (fun K hK=>?_);go_simp)
    rw[←IG.out]
    (refine hK _ _ (fun _=>G7.out) ?_;clear hK K;(try simp only[Act.put,lsA,lsB,bV]))
    clear hS0 b0 b1 b2 b3 c0 c1 c2 c3 IG nJ
    (refine jK rfl rfl (fun K hK=>?_);go_simp)
    rw[←KZ.out]
    (refine hK _ _ (fun h=>by cases h) ?_;clear hK K;(try simp only[Act.put,lsA,lsB,bV]))
    refine eF ?_
    clear d0 d1 d2 d3 e0 e1 e2 e3 KZ G7
    obtain⟨d0,d1,d2,d3⟩:=HR2.out
    obtain⟨e0,e1,e2,e3⟩:=HR1.out
    go_wp2
    exact bodyPost_ret (v:=.tuple #[.agg #[.int .i64 0,.int .i64 ln,.int .i64 ld,.bool lo],.agg #[.int .i64 0,.int .i64 hn,.int .i64 hd,.bool (!ho)]]) (by simp[results,Tryz.results214,go_sem,d0,d1,d2,d3,e0,e1,e2,e3]) rfl ⟨rfl,H6.out⟩
   | true=>
    as_aux_lemma=>
    have cl:=(VD.out wc _ (show Sat W wc (sep X (sep (blk g1 (.cells #[.int .i64 0,.int .i64 ln,.int .i64 ld,.bool lo] 223 (0,0))) (blk g2 (.cells #[.int .i64 0,.int .i64 hn,.int .i64 hd,.bool (!ho)] 223 (0,0))))) by simpa only[au,ak,aj] using hS)).1
    have H2:=ah hS.p1
    clear hS
    go_upto_region 4 with (fail)
    clear cl
    have ch:=(VD.out wc _ (show Sat W wc (sep X (sep (blk g1 (.cells #[.int .i64 0,.int .i64 ln,.int .i64 ld,.bool lo] 223 (0,0))) (blk g2 (.cells #[.int .i64 0,.int .i64 hn,.int .i64 hd,.bool (!ho)] 223 (0,0))))) by simpa only[au,ak,aj] using H2.out)).2
    obtain⟨k0,k1,k2,k3⟩:=oP H2.out
    obtain⟨u0,u1,u2,u3⟩:=jH H2.out
    have h3:=iI H2.out (.int .i64 1) (.int .i64 0) (.int .i64 0) (.bool false)
    obtain⟨w3,hw3⟩:=aC ((((wc.setCell ⟨g2,0,none⟩ (.int .i64 1)).setCell ⟨g2,1,none⟩ (.int .i64 0)).setCell ⟨g2,2,none⟩ (.int .i64 0)).setCell ⟨g2,3,none⟩ (.bool false))
    rw[←hw3] at h3
    have HW3:=ah hw3
    have H3:=ah h3.p1
    clear hw3 h3 H2
    go_upto_region 6 with (fail)
    rw[←HW3.out]
    clear k0 k1 k2 k3 u0 u1 u2 u3 HW3 ch
    have hD:=H3.out.drew
    obtain⟨wd,hwd⟩:=aC (w3.drew)
    rw[←hwd] at hD
    have nJ:=ah hwd
    obtain⟨a0,a1,a2,a3⟩:=oP hD
    have hS0:wd.cell? ⟨g2,0,none⟩=some (.int .i64 1)∧wd.cell? ⟨g2,1,none⟩=some (.int .i64 0)∧wd.cell? ⟨g2,2,none⟩=some (.int .i64 0)∧wd.cell? ⟨g2,3,none⟩=some (.bool false):=oP hD.p1
    rw[HX.out] at hD
    have r1:=hD.p3
    obtain⟨b0,b1,b2,b3⟩:=oP r1
    obtain⟨c0,c1,c2,c3⟩:=jH r1
    have h5:=iI r1 (.int .i64 0) (.int .i64 ln) (.int .i64 ld) (.bool lo)
    obtain⟨w5,hw5⟩:=aC ((((wd.setCell ⟨B+1,0,none⟩ (.int .i64 0)).setCell ⟨B+1,1,none⟩ (.int .i64 ln)).setCell ⟨B+1,2,none⟩ (.int .i64 ld)).setCell ⟨B+1,3,none⟩ (.bool lo))
    rw[←hw5] at h5
    have IG:=ah hw5
    have G7:Hid (w5.cell? ⟨g2,0,none⟩=some (.int .i64 1)∧w5.cell? ⟨g2,1,none⟩=some (.int .i64 0)∧w5.cell? ⟨g2,2,none⟩=some (.int .i64 0)∧w5.cell? ⟨g2,3,none⟩=some (.bool false)):=ah (oP h5.p2)
    have r2:=h5.p3
    obtain⟨d0,d1,d2,d3⟩:=oP r2
    obtain⟨e0,e1,e2,e3⟩:=jH r2
    have h6:=iI r2 (.int .i64 1) (.int .i64 0) (.int .i64 0) (.bool false)
    obtain⟨w6,hw6⟩:=aC ((((w5.setCell ⟨B+2,0,none⟩ (.int .i64 1)).setCell ⟨B+2,1,none⟩ (.int .i64 0)).setCell ⟨B+2,2,none⟩ (.int .i64 0)).setCell ⟨B+2,3,none⟩ (.bool false))
    rw[←hw6] at h6
    have KZ:=ah hw6
    have HR2:Hid (w6.cell? ⟨B+2,0,none⟩=some (.int .i64 1)∧w6.cell? ⟨B+2,1,none⟩=some (.int .i64 0)∧w6.cell? ⟨B+2,2,none⟩=some (.int .i64 0)∧w6.cell? ⟨B+2,3,none⟩=some (.bool false)):=ah (oP h6)
    have HR1:Hid (w6.cell? ⟨B+1,0,none⟩=some (.int .i64 0)∧w6.cell? ⟨B+1,1,none⟩=some (.int .i64 ln)∧w6.cell? ⟨B+1,2,none⟩=some (.int .i64 ld)∧w6.cell? ⟨B+1,3,none⟩=some (.bool lo)):=ah (oP h6.p1)
    have H6:=ah h6.forget.forget.forget.forget.forget
    clear hwd hD r1 h5 hw5 r2 h6 hw6 H3
    refine aG rfl (fun w'=>w'.cell? ⟨g2,0,none⟩=some (.int .i64 1)∧w'.cell? ⟨g2,1,none⟩=some (.int .i64 0)∧w'.cell? ⟨g2,2,none⟩=some (.int .i64 0)∧w'.cell? ⟨g2,3,none⟩=some (.bool false)) [(0,.t),(1,.s),(2,.e true),(3,.e false)] (by kernel_rfl) ?_
    rw[←nJ.out]
    (repeat ((first|(refine iK (v:=?_) rfl rfl (fun w'=>?_) ?_;rotate_left;(go_simp;with_reducible rfl))|(refine iL (v:=?_) rfl rfl hS0 (fun w' hS=>?_) ?_;rotate_left;((try dsimp only at hS);go_simp;with_reducible rfl))|(refine iM (v:=?_) rfl rfl ?_ ?_;rotate_left;(go_simp;with_reducible rfl))|(refine dF rfl rfl ?_)|(refine dG rfl rfl hS0 ?_)|(refine dH rfl rfl ?_));simp only[Act.put,lsA,lsB,bV]))
    clear a0 a1 a2 a3
    (refine jK rfl rfl (fun K hK=>?_);go_simp)
    rw[←IG.out]
    (refine hK _ _ (fun _=>G7.out) ?_;clear hK K;(try simp only[Act.put,lsA,lsB,bV]))
    clear hS0 b0 b1 b2 b3 c0 c1 c2 c3 IG nJ
    (refine jK rfl rfl (fun K hK=>?_);go_simp)
    rw[←KZ.out]
    (refine hK _ _ (fun h=>by cases h) ?_;clear hK K;(try simp only[Act.put,lsA,lsB,bV]))
    refine eF ?_
    clear d0 d1 d2 d3 e0 e1 e2 e3 KZ G7
    obtain⟨d0,d1,d2,d3⟩:=HR2.out
    obtain⟨e0,e1,e2,e3⟩:=HR1.out
    go_wp2
    exact bodyPost_ret (v:=.tuple #[.agg #[.int .i64 0,.int .i64 ln,.int .i64 ld,.bool lo],.agg #[.int .i64 1,.int .i64 0,.int .i64 0,.bool false]]) (by simp[results,Tryz.results214,go_sem,d0,d1,d2,d3,e0,e1,e2,e3]) rfl ⟨rfl,H6.out⟩
  | true=>
   cases hi with
   | false=>
    as_aux_lemma=>
    have cl:=(VD.out wc _ (show Sat W wc (sep X (sep (blk g1 (.cells #[.int .i64 0,.int .i64 ln,.int .i64 ld,.bool lo] 223 (0,0))) (blk g2 (.cells #[.int .i64 0,.int .i64 hn,.int .i64 hd,.bool (!ho)] 223 (0,0))))) by simpa only[au,ak,aj] using hS)).1
    obtain⟨k0,k1,k2,k3⟩:=oP hS
    obtain⟨u0,u1,u2,u3⟩:=jH hS
    have h2:=iI hS (.int .i64 (-1)) (.int .i64 0) (.int .i64 0) (.bool false)
    obtain⟨w2,hw2⟩:=aC ((((wc.setCell ⟨g1,0,none⟩ (.int .i64 (-1))).setCell ⟨g1,1,none⟩ (.int .i64 0)).setCell ⟨g1,2,none⟩ (.int .i64 0)).setCell ⟨g1,3,none⟩ (.bool false))
    rw[←hw2] at h2
    have HW2:=ah hw2
    have H2:=ah h2.p1
    clear hw2 h2 hS
    go_upto_region 4 with (fail)
    rw[←HW2.out]
    clear k0 k1 k2 k3 u0 u1 u2 u3 HW2 cl
    have ch:=(VD.out w2 _ (show Sat W w2 (sep X (sep (blk g1 (.cells #[.int .i64 (-1),.int .i64 0,.int .i64 0,.bool false] 223 (0,0))) (blk g2 (.cells #[.int .i64 0,.int .i64 hn,.int .i64 hd,.bool (!ho)] 223 (0,0))))) by simpa only[au,ak,aj] using H2.out)).2
    have H3:=ah H2.out.p1
    clear H2
    go_upto_region 6 with (fail)
    clear ch
    have hD:=H3.out.drew
    obtain⟨wd,hwd⟩:=aC (w2.drew)
    rw[←hwd] at hD
    have nJ:=ah hwd
    obtain⟨a0,a1,a2,a3⟩:=oP hD
    have hS0:wd.cell? ⟨g2,0,none⟩=some (.int .i64 0)∧wd.cell? ⟨g2,1,none⟩=some (.int .i64 hn)∧wd.cell? ⟨g2,2,none⟩=some (.int .i64 hd)∧wd.cell? ⟨g2,3,none⟩=some (.bool (!ho)):=oP hD.p1
    rw[HX.out] at hD
    have r1:=hD.p3
    obtain⟨b0,b1,b2,b3⟩:=oP r1
    obtain⟨c0,c1,c2,c3⟩:=jH r1
    have h5:=iI r1 (.int .i64 (-1)) (.int .i64 0) (.int .i64 0) (.bool false)
    obtain⟨w5,hw5⟩:=aC ((((wd.setCell ⟨B+1,0,none⟩ (.int .i64 (-1))).setCell ⟨B+1,1,none⟩ (.int .i64 0)).setCell ⟨B+1,2,none⟩ (.int .i64 0)).setCell ⟨B+1,3,none⟩ (.bool false))
    rw[←hw5] at h5
    have IG:=ah hw5
    have G7:Hid (w5.cell? ⟨g2,0,none⟩=some (.int .i64 0)∧w5.cell? ⟨g2,1,none⟩=some (.int .i64 hn)∧w5.cell? ⟨g2,2,none⟩=some (.int .i64 hd)∧w5.cell? ⟨g2,3,none⟩=some (.bool (!ho))):=ah (oP h5.p2)
    have r2:=h5.p3
    obtain⟨d0,d1,d2,d3⟩:=oP r2
    obtain⟨e0,e1,e2,e3⟩:=jH r2
    have h6:=iI r2 (.int .i64 0) (.int .i64 hn) (.int .i64 hd) (.bool (!ho))
    obtain⟨w6,hw6⟩:=aC ((((w5.setCell ⟨B+2,0,none⟩ (.int .i64 0)).setCell ⟨B+2,1,none⟩ (.int .i64 hn)).setCell ⟨B+2,2,none⟩ (.int .i64 hd)).setCell ⟨B+2,3,none⟩ (.bool (!ho)))
    rw[←hw6] at h6
    have KZ:=ah hw6
    have HR2:Hid (w6.cell? ⟨B+2,0,none⟩=some (.int .i64 0)∧w6.cell? ⟨B+2,1,none⟩=some (.int .i64 hn)∧w6.cell? ⟨B+2,2,none⟩=some (.int .i64 hd)∧w6.cell? ⟨B+2,3,none⟩=some (.bool (!ho))):=ah (oP h6)
    have HR1:Hid (w6.cell? ⟨B+1,0,none⟩=some (.int .i64 (-1))∧w6.cell? ⟨B+1,1,none⟩=some (.int .i64 0)∧w6.cell? ⟨B+1,2,none⟩=some (.int .i64 0)∧w6.cell? ⟨B+1,3,none⟩=some (.bool false)):=ah (oP h6.p1)
    have H6:=ah h6.forget.forget.forget.forget.forget
    clear hwd hD r1 h5 hw5 r2 h6 hw6 H3
    refine aG rfl (fun w'=>w'.cell? ⟨g2,0,none⟩=some (.int .i64 0)∧w'.cell? ⟨g2,1,none⟩=some (.int .i64 hn)∧w'.cell? ⟨g2,2,none⟩=some (.int .i64 hd)∧w'.cell? ⟨g2,3,none⟩=some (.bool (!ho))) [(0,.t),(1,.s),(2,.e true),(3,.e false)] (by kernel_rfl) ?_
    rw[←nJ.out]
    (repeat ((first|(refine iK (v:=?_) rfl rfl (fun w'=>?_) ?_;rotate_left;(go_simp;with_reducible rfl))|(refine iL (v:=?_) rfl rfl hS0 (fun w' hS=>?_) ?_;rotate_left;((try dsimp only at hS);go_simp;with_reducible rfl))|(refine iM (v:=?_) rfl rfl ?_ ?_;rotate_left;(go_simp;with_reducible rfl))|(refine dF rfl rfl ?_)|(refine dG rfl rfl hS0 ?_)|(refine dH rfl rfl ?_));simp only[Act.put,lsA,lsB,bV]))
    clear a0 a1 a2 a3
    (refine jK rfl rfl (fun K hK=>?_);go_simp)
    rw[←IG.out]
    (refine hK _ _ (fun _=>G7.out) ?_;clear hK K;(try simp only[Act.put,lsA,lsB,bV]))
    clear hS0 b0 b1 b2 b3 c0 c1 c2 c3 IG nJ
    (refine jK rfl rfl (fun K hK=>?_);go_simp)
    rw[←KZ.out]
    (refine hK _ _ (fun h=>by cases h) ?_;clear hK K;(try simp only[Act.put,lsA,lsB,bV]))
    refine eF ?_
    clear d0 d1 d2 d3 e0 e1 e2 e3 KZ G7
    obtain⟨d0,d1,d2,d3⟩:=HR2.out
    obtain⟨e0,e1,e2,e3⟩:=HR1.out
    go_wp2
    exact bodyPost_ret (v:=.tuple #[.agg #[.int .i64 (-1),.int .i64 0,.int .i64 0,.bool false],.agg #[.int .i64 0,.int .i64 hn,.int .i64 hd,.bool (!ho)]]) (by simp[results,Tryz.results214,go_sem,d0,d1,d2,d3,e0,e1,e2,e3]) rfl ⟨rfl,H6.out⟩
   | true=>
    as_aux_lemma=>
    have cl:=(VD.out wc _ (show Sat W wc (sep X (sep (blk g1 (.cells #[.int .i64 0,.int .i64 ln,.int .i64 ld,.bool lo] 223 (0,0))) (blk g2 (.cells #[.int .i64 0,.int .i64 hn,.int .i64 hd,.bool (!ho)] 223 (0,0))))) by simpa only[au,ak,aj] using hS)).1
    obtain⟨k0,k1,k2,k3⟩:=oP hS
    obtain⟨u0,u1,u2,u3⟩:=jH hS
    have h2:=iI hS (.int .i64 (-1)) (.int .i64 0) (.int .i64 0) (.bool false)
    obtain⟨w2,hw2⟩:=aC ((((wc.setCell ⟨g1,0,none⟩ (.int .i64 (-1))).setCell ⟨g1,1,none⟩ (.int .i64 0)).setCell ⟨g1,2,none⟩ (.int .i64 0)).setCell ⟨g1,3,none⟩ (.bool false))
    rw[←hw2] at h2
    have HW2:=ah hw2
    have H2:=ah h2.p1
    clear hw2 h2 hS
    go_upto_region 4 with (fail)
    rw[←HW2.out]
    clear k0 k1 k2 k3 u0 u1 u2 u3 HW2 cl
    have ch:=(VD.out w2 _ (show Sat W w2 (sep X (sep (blk g1 (.cells #[.int .i64 (-1),.int .i64 0,.int .i64 0,.bool false] 223 (0,0))) (blk g2 (.cells #[.int .i64 0,.int .i64 hn,.int .i64 hd,.bool (!ho)] 223 (0,0))))) by simpa only[au,ak,aj] using H2.out)).2
    obtain⟨k0,k1,k2,k3⟩:=oP H2.out
    obtain⟨u0,u1,u2,u3⟩:=jH H2.out
    have h3:=iI H2.out (.int .i64 1) (.int .i64 0) (.int .i64 0) (.bool false)
    obtain⟨w3,hw3⟩:=aC ((((w2.setCell ⟨g2,0,none⟩ (.int .i64 1)).setCell ⟨g2,1,none⟩ (.int .i64 0)).setCell ⟨g2,2,none⟩ (.int .i64 0)).setCell ⟨g2,3,none⟩ (.bool false))
    rw[←hw3] at h3
    have HW3:=ah hw3
    have H3:=ah h3.p1
    clear hw3 h3 H2
    go_upto_region 6 with (fail)
    rw[←HW3.out]
    clear k0 k1 k2 k3 u0 u1 u2 u3 HW3 ch
    have hD:=H3.out.drew
    obtain⟨wd,hwd⟩:=aC (w3.drew)
    rw[←hwd] at hD
    have nJ:=ah hwd
    obtain⟨a0,a1,a2,a3⟩:=oP hD
    have hS0:wd.cell? ⟨g2,0,none⟩=some (.int .i64 1)∧wd.cell? ⟨g2,1,none⟩=some (.int .i64 0)∧wd.cell? ⟨g2,2,none⟩=some (.int .i64 0)∧wd.cell? ⟨g2,3,none⟩=some (.bool false):=oP hD.p1
    rw[HX.out] at hD
    have r1:=hD.p3
    obtain⟨b0,b1,b2,b3⟩:=oP r1
    obtain⟨c0,c1,c2,c3⟩:=jH r1
    have h5:=iI r1 (.int .i64 (-1)) (.int .i64 0) (.int .i64 0) (.bool false)
    obtain⟨w5,hw5⟩:=aC ((((wd.setCell ⟨B+1,0,none⟩ (.int .i64 (-1))).setCell ⟨B+1,1,none⟩ (.int .i64 0)).setCell ⟨B+1,2,none⟩ (.int .i64 0)).setCell ⟨B+1,3,none⟩ (.bool false))
    rw[←hw5] at h5
    have IG:=ah hw5
    have G7:Hid (w5.cell? ⟨g2,0,none⟩=some (.int .i64 1)∧w5.cell? ⟨g2,1,none⟩=some (.int .i64 0)∧w5.cell? ⟨g2,2,none⟩=some (.int .i64 0)∧w5.cell? ⟨g2,3,none⟩=some (.bool false)):=ah (oP h5.p2)
    have r2:=h5.p3
    obtain⟨d0,d1,d2,d3⟩:=oP r2
    obtain⟨e0,e1,e2,e3⟩:=jH r2
    have h6:=iI r2 (.int .i64 1) (.int .i64 0) (.int .i64 0) (.bool false)
    obtain⟨w6,hw6⟩:=aC ((((w5.setCell ⟨B+2,0,none⟩ (.int .i64 1)).setCell ⟨B+2,1,none⟩ (.int .i64 0)).setCell ⟨B+2,2,none⟩ (.int .i64 0)).setCell ⟨B+2,3,none⟩ (.bool false))
    rw[←hw6] at h6
    have KZ:=ah hw6
    have HR2:Hid (w6.cell? ⟨B+2,0,none⟩=some (.int .i64 1)∧w6.cell? ⟨B+2,1,none⟩=some (.int .i64 0)∧w6.cell? ⟨B+2,2,none⟩=some (.int .i64 0)∧w6.cell? ⟨B+2,3,none⟩=some (.bool false)):=ah (oP h6)
    have HR1:Hid (w6.cell? ⟨B+1,0,none⟩=some (.int .i64 (-1))∧w6.cell? ⟨B+1,1,none⟩=some (.int .i64 0)∧w6.cell? ⟨B+1,2,none⟩=some (.int .i64 0)∧w6.cell? ⟨B+1,3,none⟩=some (.bool false)):=ah (oP h6.p1)
    have H6:=ah h6.forget.forget.forget.forget.forget
    clear hwd hD r1 h5 hw5 r2 h6 hw6 H3
    refine aG rfl (fun w'=>w'.cell? ⟨g2,0,none⟩=some (.int .i64 1)∧w'.cell? ⟨g2,1,none⟩=some (.int .i64 0)∧w'.cell? ⟨g2,2,none⟩=some (.int .i64 0)∧w'.cell? ⟨g2,3,none⟩=some (.bool false)) [(0,.t),(1,.s),(2,.e true),(3,.e false)] (by kernel_rfl) ?_
    rw[←nJ.out]
    (repeat ((first|(refine iK (v:=?_) rfl rfl (fun w'=>?_) ?_;rotate_left;(go_simp;with_reducible rfl))|(refine iL (v:=?_) rfl rfl hS0 (fun w' hS=>?_) ?_;rotate_left;((try dsimp only at hS);go_simp;with_reducible rfl))|(refine iM (v:=?_) rfl rfl ?_ ?_;rotate_left;(go_simp;with_reducible rfl))|(refine dF rfl rfl ?_)|(refine dG rfl rfl hS0 ?_)|(refine dH rfl rfl ?_));simp only[Act.put,lsA,lsB,bV]))
    clear a0 a1 a2 a3
    (refine jK rfl rfl (fun K hK=>?_);go_simp)
    rw[←IG.out]
    (refine hK _ _ (fun _=>G7.out) ?_;clear hK K;(try simp only[Act.put,lsA,lsB,bV]))
    clear hS0 b0 b1 b2 b3 c0 c1 c2 c3 IG nJ
    (refine jK rfl rfl (fun K hK=>?_);go_simp)
    rw[←KZ.out]
    (refine hK _ _ (fun h=>by cases h) ?_;clear hK K;(try simp only[Act.put,lsA,lsB,bV]))
    refine eF ?_
    clear d0 d1 d2 d3 e0 e1 e2 e3 KZ G7
    obtain⟨d0,d1,d2,d3⟩:=HR2.out
    obtain⟨e0,e1,e2,e3⟩:=HR1.out
    go_wp2
    exact bodyPost_ret (v:=.tuple #[.agg #[.int .i64 (-1),.int .i64 0,.int .i64 0,.bool false],.agg #[.int .i64 1,.int .i64 0,.int .i64 0,.bool false]]) (by simp[results,Tryz.results214,go_sem,d0,d1,d2,d3,e0,e1,e2,e3]) rfl ⟨rfl,H6.out⟩
end Go.Proofs.YthfmaclnccdcbaaGreatDoor
namespace Go.Proofs.YthfmaclnccdcbaaGreatDoor
open Go.RowKit PA
structure Hf (x:Iv):Prop where
 lw:Qu x.lw
 up:Qu x.up
set_option maxRecDepth 100000 in
set_option maxHeartbeats 4000000 in
theorem La {W w:World} {A:aB} (x:Iv) (hB:Hf x) (h:Sat W w A):
 Calls Tryz.prog 213 #[.agg (IB x)] w fun e w'=>e=.returned (.bool (fQ x))∧Sat W w' A:=by
 obtain⟨rv,dJ⟩:=aC (fQ x)
 have hlim:=Aa x
 rw[←dJ] at hlim ⊢
 have yj:Hid (∀w' A',Sat W w' A'→Calls Tryz.prog 214 #[.agg (IB x)] w' fun e w''=>e=.returned (.tuple #[.agg (zY x).cs.toArray,.agg (zZ x).cs.toArray])∧Sat W w'' A'):=ah fun w' A' h'=>uw x h'
 have iV:Hid (sO x.lw x.lo x.li=true→sO x.up x.ho x.hi=true→∀w' A',Sat W w' A'→Calls Tryz.prog 215 #[.agg (zY x).cs.toArray,.agg (zZ x).cs.toArray] w' fun e w''=>e=.returned (.bool (KU (zY x) (zZ x)))∧Sat W w'' A'):=ah fun e1 e2 w' A' h'=>Ad (zY x) (zZ x) (Qs e1 e2) h'
 obtain⟨lt,hlt⟩:=aC (KU (zY x) (zZ x))
 rw[←hlt] at iV hlim
 obtain⟨va,hva⟩:=aC ((zY x).cs.toArray)
 obtain⟨vb,hvb⟩:=aC ((zZ x).cs.toArray)
 rw[←hva,←hvb] at yj iV
 have hl1:=fun w' (A':aB) (h':Sat W w' A')=>DX x.ln x.ld x.lo x.li hB.lw h'
 have hl2:=fun w' (A':aB) (h':Sat W w' A')=>DX x.hn x.hd x.ho x.hi hB.up h'
 obtain⟨ln,ld,hn,hd,lo,ho,li,hi⟩:=x
 simp only[Iv.lw,Iv.up] at hlim iV hl1 hl2
 unfold IB at yj ⊢
 simp only at yj ⊢
 obtain⟨l1,e1⟩:=aC (sO ⟨ln,ld⟩ lo li)
 obtain⟨l2,e2⟩:=aC (sO ⟨hn,hd⟩ ho hi)
 rw[←e1] at hlim iV hl1
 rw[←e2] at hlim iV hl2
 have SV:=ah hl1
 have HL2:=ah hl2
 have bI:=ah hlim
 have h1:=h.alloc (.cells #[.int .i64 ln,.int .i64 ld,.int .i64 hn,.int .i64 hd,.bool lo,.bool ho,.bool li,.bool hi] 159)
 obtain⟨B,Xd⟩:=aC (w.heap.size)
 obtain⟨w1,hw1⟩:=aC (w.alloc (.cells #[.int .i64 ln,.int .i64 ld,.int .i64 hn,.int .i64 hd,.bool lo,.bool ho,.bool li,.bool hi] 159))
 rw[←Xd,←hw1] at h1
 have Qw:=ah (And.intro Xd hw1)
 have H1:=ah h1
 obtain⟨k0,k1,k2,k3,k4,k5,k6,k7⟩:=IC h1
 clear dJ hlt hva hvb hl1 hl2 e1 e2 hlim h h1 Xd hw1 hB
 cases l1 with
 | false=>
  go_enter Tryz.func213,Tryz.ntmps213
  go_upto_region 1 with (fail)
  rw[←Qw.out.1,←Qw.out.2]
  go_wp2_with fail
  refine (SV.out _ _ H1.out).mono ?_
  rintro e w2 ⟨rfl,h2⟩
  have H2:=ah h2.drop
  clear h2 k0 k1 k2 k3 k4 k5 k6 k7
  go_wp2
  go_ret
  exact⟨by rw[bI.out];rfl,H2.out⟩
 | true=>
  cases l2 with
  | false=>
   go_enter Tryz.func213,Tryz.ntmps213
   go_upto_region 1 with (fail)
   rw[←Qw.out.1,←Qw.out.2]
   go_wp2_with fail
   refine (SV.out _ _ H1.out).mono ?_
   rintro e w2 ⟨rfl,h2⟩
   clear k0 k1 k2 k3 k4 k5 k6 k7
   obtain⟨k0,k1,k2,k3,k4,k5,k6,k7⟩:=IC h2
   have H2:=ah h2
   clear h2
   go_wp2_with fail
   refine (HL2.out _ _ H2.out).mono ?_
   rintro e w3 ⟨rfl,h3⟩
   have H3:=ah h3.drop
   clear h3 k0 k1 k2 k3 k4 k5 k6 k7
   go_wp2
   go_ret
   exact⟨by rw[bI.out];rfl,H3.out⟩
  | true=>
   have aaP:=ah (iV.out rfl rfl)
   go_enter Tryz.func213,Tryz.ntmps213
   go_upto_region 1 with (fail)
   rw[←Qw.out.1,←Qw.out.2]
   go_wp2_with fail
   refine (SV.out _ _ H1.out).mono ?_
   rintro e w2 ⟨rfl,h2⟩
   clear k0 k1 k2 k3 k4 k5 k6 k7
   obtain⟨k0,k1,k2,k3,k4,k5,k6,k7⟩:=IC h2
   have H2:=ah h2
   clear h2
   go_wp2_with fail
   refine (HL2.out _ _ H2.out).mono ?_
   rintro e w3 ⟨rfl,h3⟩
   clear k0 k1 k2 k3 k4 k5 k6 k7
   obtain⟨k0,k1,k2,k3,k4,k5,k6,k7⟩:=IC h3
   have H3:=ah h3
   clear h3
   go_wp2_with fail
   refine (yj.out _ _ H3.out).mono ?_
   rintro e w4 ⟨rfl,h4⟩
   have H4:=ah h4.drop
   clear h4 k0 k1 k2 k3 k4 k5 k6 k7
   go_wp2_with fail
   refine (aaP.out _ _ H4.out).mono ?_
   rintro e w5 ⟨rfl,h5⟩
   have H5:=ah h5
   clear h5
   go_wp2
   go_ret
   exact⟨by rw[bI.out];rfl,H5.out⟩
end Go.Proofs.YthfmaclnccdcbaaGreatDoor
namespace PA
open Go Go.RowKit
end PA
namespace Go.Proofs.YthfmaclnccdcbaaGreatDoor
open Go.RowKit PA
theorem Oz {W w:World} {A:aB} (a:Option Addr) (n c:Nat) (h:Sat W w A):
 Calls Tryz.prog 216 #[.slice a n c] w fun e w'=>e=.returned (.int .i64 (if 32<n then 4 else 0))∧Sat W w' A:=by
 by_cases h1:32<n
 ·have h2:(32:Int)<n:=by omega
  rw[if_pos h1]
  go_enter Tryz.func216,Tryz.ntmps216
  go_wp2
  go_ret
  exact⟨rfl,h⟩
 ·have h2:¬(32:Int)<n:=by omega
  rw[if_neg h1]
  go_enter Tryz.func216,Tryz.ntmps216
  go_wp2
  go_ret
  exact⟨rfl,h⟩
set_option maxRecDepth 100000 in
set_option maxHeartbeats 8000000 in
theorem II {W w:World} {A:aB} {I:Mem} (a:Option Addr) (c:Nat) (l:List Iv) (hv:(SL.slice 8).rel I [.slice a l.length c] l) (hB:∀x∈l,Hf x) (h:Sat W w (sep (kn I) A)):
 Calls Tryz.prog 198 #[.slice a l.length c] w fun e w'=>e=.returned (.int .i64 (Hg l))∧Sat W w' (sep (kn I) A):=by
 obtain⟨n,hn⟩:=aC (l.length)
 obtain⟨sv,hsv⟩:=aC (Hg l)
 have hl63:=(aI hv).2.2
 rw[←hn] at hv hl63 ⊢
 rw[←hsv]
 have Hl:=ah (And.intro hsv hn)
 have HV:=ah hv
 have HB:=ah hB
 have H:=ah h
 clear hv h hsv hn hB
 go_enter Tryz.func198,Tryz.ntmps198
 go_wp2
 go_loopw [11] (fun iv wr=>∃i:Nat,iv=.int .i64 i∧i≤n∧Hid (yT l i=true)∧Sat W wr (sep (kn I) A)) (fun iv _=>n-(intOf iv).toNat)
 case atStart=>exact⟨0,rfl,by omega,ah (wY l),H.out⟩
 case round=>
  obtain⟨i,rfl,hi,hsp,hS⟩:=hrel
  clear H
  by_cases hlt:i<n
  ·have hltz:(i:Int)<(n:Int):=by omega
   have hil:i<l.length:=by have:=Hl.out.2;omega
   obtain⟨x,hx⟩:∃x,l[i]?=some x:=⟨_,List.getElem?_eq_getElem hil⟩
   have hxm:x∈l:=List.mem_of_getElem? hx
   obtain⟨b,o,rfl,hcell⟩:=vK HV.out hx
   have HC:=ah hcell
   obtain⟨k0,k1,k2,k3,k4,k5,k6,k7⟩:=hcell wr hS.ext
   have ZT:Hid (∀w' A',Sat W w' A'→Calls Tryz.prog 213 #[.agg (IB x)] w' fun e w''=>e=.returned (.bool (fQ x))∧Sat W w'' A'):=ah fun w' A' h'=>La x (HB.out x hxm) h'
   have yj:Hid (∀w' A',Sat W w' A'→Calls Tryz.prog 214 #[.agg (IB x)] w' fun e w''=>e=.returned (.tuple #[.agg (zY x).cs.toArray,.agg (zZ x).cs.toArray])∧Sat W w'' A'):=ah fun w' A' h'=>uw x h'
   obtain⟨g,hg⟩:=aC (fQ x)
   rw[←hg] at ZT
   have h2:=hS.alloc (.cells #[.int .i64 x.ln,.int .i64 x.ld,.int .i64 x.hn,.int .i64 x.hd,.bool x.lo,.bool x.ho,.bool x.li,.bool x.hi] 159)
   obtain⟨w2,hw2⟩:=aC (wr.alloc (.cells #[.int .i64 x.ln,.int .i64 x.ld,.int .i64 x.hn,.int .i64 x.hd,.bool x.lo,.bool x.ho,.bool x.li,.bool x.hi] 159))
   rw[←hw2] at h2
   obtain⟨G,hG⟩:=aC (wr.heap.size)
   have HW2:=ah (And.intro hG hw2)
   rw[←hG] at h2
   have H2:=ah h2
   have HX:=ah (And.intro hx hg)
   have HI:=ah (And.intro hlt hil)
   clear hcell hS hx hg hlt hil hi hxm hw2 hG h2
   go_upto_region 4 with (fail)
   rw[←HW2.out.1,←HW2.out.2]
   clear k0 k1 k2 k3 k4 k5 k6 k7
   obtain⟨k0,k1,k2,k3,k4,k5,k6,k7⟩:=IC H2.out
   unfold IB at ZT
   go_wp2_with fail
   refine (ZT.out _ _ H2.out).mono ?_
   rintro e w3 ⟨rfl,h3⟩
   clear k0 k1 k2 k3 k4 k5 k6 k7
   have H3:=ah h3
   clear h3 H2 HW2 ZT
   cases g with
   | false=>
    go_wp2
    go_ret
    refine⟨?_,H3.out.drop⟩
    have hsa:qE l i=false:=by
     cases hsa:qE l i with
     | false=>rfl
     | true=>have:=su HX.out.1 hsa;rw[←HX.out.2] at this;cases this
    have:sv=1:=by rw[Hl.out.1];unfold Hg;rw[if_pos (qR (by have:=HI.out.1;have:=Hl.out.2;omega) hsa)]
    rw[this];rfl
   | true=>
    cases i with
    | zero=>
     go_wp2
     go_roundw
     case rel=>exact⟨1,by go_num,by have:=HI.out;omega,ah (by rw[ou,hsp.out,DZ HX.out.1,←HX.out.2];rfl),H3.out.drop⟩
     case measure=>simp[intOf];have:=HI.out;omega
    | succ j=>
     as_aux_lemma=>
     obtain⟨y,hy⟩:∃y,l[j]?=some y:=⟨_,List.getElem?_eq_getElem (by have:=HI.out.2;omega)⟩
     obtain⟨b',o',e',hcj⟩:=vK HV.out hy
     cases e'
     have OA:fQ y=true:=su hy (NC (by omega) hsp.out)
     have Xe:Hid (∀w' A',Sat W w' A'→Calls Tryz.prog 214 #[.agg (IB y)] w' fun e w''=>e=.returned (.tuple #[.agg (zY y).cs.toArray,.agg (zZ y).cs.toArray])∧Sat W w'' A'):=ah fun w' A' h'=>uw y h'
     have ND:Hid (∀w' A',Sat W w' A'→Calls Tryz.prog 215 #[.agg (zZ y).cs.toArray,.agg (zY x).cs.toArray] w' fun e w''=>e=.returned (.bool (KU (zZ y) (zY x)))∧Sat W w'' A'):=ah fun w' A' h'=>Ad (zZ y) (zY x) (Qr OA HX.out.2.symm) h'
     obtain⟨ap,hap⟩:=aC (KU (zZ y) (zY x))
     rw[←hap] at ND
     have YL:qE l (j+1)=ap:=by
      rw[wZ HX.out.1 hy,←HX.out.2,hap,←KX OA HX.out.2.symm];rfl
     obtain⟨⟨f1,n1,d1,b1⟩,he1⟩:∃z,z=zY x:=⟨_,rfl⟩
     obtain⟨⟨f2,n2,d2,b2⟩,he2⟩:∃z,z=zZ x:=⟨_,rfl⟩
     obtain⟨⟨f3,n3,d3,b3⟩,he3⟩:∃z,z=zY y:=⟨_,rfl⟩
     obtain⟨⟨f4,n4,d4,b4⟩,he4⟩:∃z,z=zZ y:=⟨_,rfl⟩
     rw[←he1,←he2] at yj
     rw[←he3,←he4] at Xe
     rw[←he1,←he4] at ND
     have HAP:=ah YL
     have hj0:(0:Int)<(j:Int)+1:=by omega
     have hjw:IntKind.i64.wrap ((j:Int)+1-1)=(j:Int):=by rw[show (j:Int)+1-1=(j:Int) by omega];exact IntWalk.i64_in _ (by have:=HI.out;omega)
     have hjn:(j:Int)<(n:Int):=by have:=HI.out;omega
     have HCJ:=ah hcj
     clear hy hcj OA hap YL he1 he2 he3 he4
     unfold IB at yj Xe
     obtain⟨k0,k1,k2,k3,k4,k5,k6,k7⟩:=IC H3.out
     go_upto_region 7 with (fail)
     go_wp2_with fail
     refine (yj.out _ _ H3.out).mono ?_
     rintro e w4 ⟨rfl,h4⟩
     clear k0 k1 k2 k3 k4 k5 k6 k7 H3
     have h5:=(h4.alloc (.cells #[.int .i64 f1,.int .i64 n1,.int .i64 d1,.bool b1] 223)).alloc (.cells #[.int .i64 f2,.int .i64 n2,.int .i64 d2,.bool b2] 223)
     rw[World.size_alloc] at h5
     obtain⟨E,hE⟩:=aC (w4.heap.size)
     obtain⟨w5,hw5⟩:=aC ((w4.alloc (.cells #[.int .i64 f1,.int .i64 n1,.int .i64 d1,.bool b1] 223)).alloc (.cells #[.int .i64 f2,.int .i64 n2,.int .i64 d2,.bool b2] 223))
     rw[←hE,←hw5] at h5
     have IG:=ah (And.intro hE hw5)
     have H5:=ah h5
     clear hE hw5 h5 h4
     simp only[En.cs]
     go_upto_region 8 with (fail)
     rw[←IG.out.1,←IG.out.2]
     obtain⟨j0,j1,j2,j3,j4,j5,j6,j7⟩:=HCJ.out w5 H5.out.p3.ext
     go_wp2_with fail
     refine (Xe.out _ _ H5.out).mono ?_
     rintro e w6 ⟨rfl,h6⟩
     clear j0 j1 j2 j3 j4 j5 j6 j7 H5 IG
     have h7:=(h6.alloc (.cells #[.int .i64 f3,.int .i64 n3,.int .i64 d3,.bool b3] 223)).alloc (.cells #[.int .i64 f4,.int .i64 n4,.int .i64 d4,.bool b4] 223)
     rw[World.size_alloc] at h7
     obtain⟨E2,hE2⟩:=aC (w6.heap.size)
     obtain⟨w7,hw7⟩:=aC ((w6.alloc (.cells #[.int .i64 f3,.int .i64 n3,.int .i64 d3,.bool b3] 223)).alloc (.cells #[.int .i64 f4,.int .i64 n4,.int .i64 d4,.bool b4] 223))
     rw[←hE2,←hw7] at h7
     have HW7:=ah (And.intro hE2 hw7)
     have H7:=ah h7
     clear hE2 hw7 h7 h6
     simp only[En.cs]
     go_upto_region 9 with (fail)
     rw[←HW7.out.1,←HW7.out.2]
     obtain⟨j0,j1,j2,j3⟩:=oP H7.out
     obtain⟨k0,k1,k2,k3⟩:=oP H7.out.p3
     unfold En.cs at ND
     go_wp2_with fail
     refine (ND.out _ _ H7.out).mono ?_
     rintro e w8 ⟨rfl,h8⟩
     have H8:=ah h8.forget.forget.forget.forget.forget
     clear h8 H7 HW7 j0 j1 j2 j3 k0 k1 k2 k3
     cases ap with
     | true=>
      go_wp2
      go_roundw
      case rel=>exact⟨j+2,by go_num,by have:=HI.out;omega,ah (by rw[ou,hsp.out,HAP.out];rfl),H8.out⟩
      case measure=>simp[intOf];have:=HI.out;omega
     | false=>
      go_wp2
      go_ret
      refine⟨?_,H8.out⟩
      have:sv=1:=by rw[Hl.out.1];unfold Hg;rw[if_pos (qR (by have:=HI.out.1;have:=Hl.out.2;omega) HAP.out)]
      rw[this];rfl
  ·obtain rfl:i=n:=by omega
   have hfew:=Oz a i c hS
   have hend:sv=if 32<i then 4 else 0:=by
    rw[Hl.out.1];unfold Hg
    rw[←Hl.out.2,if_neg (by rw[hsp.out];simp)]
   rw[←hend] at hfew
   have aaR:=ah hfew
   clear hS hlt hi hsp hend hfew
   go_wp2_with fail
   refine aaR.out.mono ?_
   rintro e w2 ⟨rfl,h2⟩
   go_wp2
   go_ret
   exact⟨rfl,h2⟩
end Go.Proofs.YthfmaclnccdcbaaGreatDoor
namespace Go.Proofs.YthfmaclnccdcbaaGreatDoor
open Go.RowKit PA
set_option maxRecDepth 100000 in
set_option maxHeartbeats 4000000 in
theorem FC {W w:World} {A:aB} {I:Mem} (f:Fm) (p q:Int) (x1:Option Addr) (n1 c1:Nat) (x2:Option Addr) (n2 c2:Nat) (hr:rF.rel I [.int .i64 p,.int .i64 q,.slice x1 n1 c1,.slice x2 n2 c2] f) (VE:∀x∈f.ins,Hf x) (h:Sat W w (sep (kn I) A)):
 Calls Tryz.prog 163 #[.agg #[.int .i64 p,.int .i64 q,.slice x1 n1 c1,.slice x2 n2 c2]] w fun e w'=>e=.returned (.bool (f.formed oQ))∧Sat W w' (sep (kn I) A):=by
 obtain⟨o,n,i,k⟩:=f
 obtain⟨x1',c1',x2',c2',e,hi,hk⟩:=dL.1 hr
 simp only[List.cons.injEq,Value.int.injEq,Value.slice.injEq,true_and,and_true] at e
 obtain⟨rfl,rfl,⟨rfl,rfl,rfl⟩,⟨rfl,rfl,rfl⟩⟩:=e
 have h1:=h.alloc (.cells #[.int .i64 p,.int .i64 q,.slice x1 i.length c1,.slice x2 k.length c2] 34)
 obtain⟨B,hB⟩:=aC (w.heap.size)
 obtain⟨w1,hw1⟩:=aC (w.alloc (.cells #[.int .i64 p,.int .i64 q,.slice x1 i.length c1,.slice x2 k.length c2] 34))
 rw[←hB,←hw1] at h1
 obtain⟨k0,k1,k2,k3⟩:=kS h1
 have HB:=ah (And.intro hB hw1)
 have H1:=ah h1
 have FD:Hid (∀w' A',Sat W w' (sep (kn I) A')→Calls Tryz.prog 198 #[.slice x1 i.length c1] w' fun e w''=>e=.returned (.int .i64 (Hg i))∧Sat W w'' (sep (kn I) A')):=ah fun w' A' h'=>II x1 c1 i hi VE h'
 obtain⟨rv,dJ⟩:=aC ((Fm.mk p q i k).formed oQ)
 rw[←dJ]
 obtain⟨nk,hnk⟩:=aC (k.length)
 obtain⟨ni,hni⟩:=aC (i.length)
 obtain⟨sv,hsv⟩:=aC (Hg i)
 have jk:rv=if (p≠2∧ni≠0)∨(p≠2∧p≠1∧q≠0) then false
  else if p=0 then decide (nk=0)
  else if p=1 then decide (nk=0)&&decide (0≤q)&&decide (q<64)
  else if p=2 then decide (nk=0)&&decide (0≤q)&&decide (q<32)&&decide (sv=0)
  else if p=3∨p=6 then decide (nk=1)
  else decide (p=4)||decide (p=5):=by
  have e1:(i≠[])↔ni≠0:=by rw[hni];cases i<;>simp
  have e2:k.isEmpty=decide (nk=0):=by rw[hnk];cases k<;>simp
  rw[dJ,Fm.formed,e2]
  unfold oQ
  rw[←hsv,←hnk]
  simp only[e1]
 have bI:=ah jk
 rw[←hsv] at FD
 rw[←hnk] at k3 H1 ⊢
 rw[←hni] at k2 H1 FD ⊢
 simp only[←hni,←hnk] at HB
 have uq:=(aI hk).2.2
 have Xf:=(aI hi).2.2
 rw[←hnk] at uq
 rw[←hni] at Xf
 clear VE hr h hi hk h1 hB hw1 dJ jk hnk hni hsv
 by_cases o2:p=2
 ·subst o2
  by_cases z0:nk=0
  ·subst z0
   by_cases z1:q<0
   ·as_aux_lemma=>
    go_enter Tryz.func163,Tryz.ntmps163
    go_upto_region 1 with (fail)
    rw[←HB.out.1,←HB.out.2]
    go_wp2
    go_ret
    exact⟨by rw[bI.out];simp;omega,H1.out.drop⟩
   ·by_cases z2:q<32
    ·as_aux_lemma=>
     have z1':0≤q:=by omega
     clear z1
     go_enter Tryz.func163,Tryz.ntmps163
     go_upto_region 1 with (fail)
     rw[←HB.out.1,←HB.out.2]
     go_wp2_with fail
     refine (FD.out _ _ H1.out.p1).mono ?_
     rintro e w2 ⟨rfl,h2⟩
     have H2:=ah h2.p1.drop
     clear h2 FD k0 k1 k2 k3
     go_wp2
     go_ret
     exact⟨by rw[bI.out];(simp[z1',z2]);(try rfl),H2.out⟩
    ·as_aux_lemma=>
     have z1':0≤q:=by omega
     have z2':32≤q:=by omega
     clear z1 z2
     go_enter Tryz.func163,Tryz.ntmps163
     go_upto_region 1 with (fail)
     rw[←HB.out.1,←HB.out.2]
     go_wp2
     go_ret
     exact⟨by rw[bI.out];simp;omega,H1.out.drop⟩
  ·as_aux_lemma=>
   have z0':((nk:Int)==0)=false:=by simp;omega
   go_enter Tryz.func163,Tryz.ntmps163
   go_upto_region 1 with (fail)
   rw[←HB.out.1,←HB.out.2]
   go_wp2
   go_ret
   exact⟨by rw[bI.out];simp[z0],H1.out.drop⟩
 ·by_cases n0:ni=0
  ·subst n0
   by_cases o1:p=1
   ·subst o1
    by_cases z0:nk=0
    ·subst z0
     by_cases z1:q<0
     ·as_aux_lemma=>
      go_enter Tryz.func163,Tryz.ntmps163
      go_upto_region 1 with (fail)
      rw[←HB.out.1,←HB.out.2]
      go_wp2
      go_ret
      exact⟨by rw[bI.out];simp;omega,H1.out.drop⟩
     ·by_cases z2:q<64
      ·as_aux_lemma=>
       have z1':0≤q:=by omega
       clear z1
       go_enter Tryz.func163,Tryz.ntmps163
       go_upto_region 1 with (fail)
       rw[←HB.out.1,←HB.out.2]
       go_wp2
       go_ret
       exact⟨by rw[bI.out];simp[z1',z2],H1.out.drop⟩
      ·as_aux_lemma=>
       have z1':0≤q:=by omega
       have z2':64≤q:=by omega
       clear z1 z2
       go_enter Tryz.func163,Tryz.ntmps163
       go_upto_region 1 with (fail)
       rw[←HB.out.1,←HB.out.2]
       go_wp2
       go_ret
       exact⟨by rw[bI.out];simp;omega,H1.out.drop⟩
    ·as_aux_lemma=>
     have z0':((nk:Int)==0)=false:=by simp;omega
     go_enter Tryz.func163,Tryz.ntmps163
     go_upto_region 1 with (fail)
     rw[←HB.out.1,←HB.out.2]
     go_wp2
     go_ret
     exact⟨by rw[bI.out];simp[z0],H1.out.drop⟩
   ·by_cases q0:q=0
    ·subst q0
     by_cases p0:p=0
     ·as_aux_lemma=>
      subst p0
      go_enter Tryz.func163,Tryz.ntmps163
      go_upto_region 1 with (fail)
      rw[←HB.out.1,←HB.out.2]
      go_wp2
      go_ret
      exact⟨by rw[bI.out];(try simp);(first|done|exact OB _|exact OC _),H1.out.drop⟩
     ·by_cases p3:p=3
      ·as_aux_lemma=>
       subst p3
       go_enter Tryz.func163,Tryz.ntmps163
       go_upto_region 1 with (fail)
       rw[←HB.out.1,←HB.out.2]
       go_wp2
       go_ret
       exact⟨by rw[bI.out];(try simp);(first|done|exact OB _|exact OC _),H1.out.drop⟩
      ·by_cases p6:p=6
       ·as_aux_lemma=>
        subst p6
        go_enter Tryz.func163,Tryz.ntmps163
        go_upto_region 1 with (fail)
        rw[←HB.out.1,←HB.out.2]
        go_wp2
        go_ret
        exact⟨by rw[bI.out];(try simp);(first|done|exact OB _|exact OC _),H1.out.drop⟩
       ·by_cases p4:p=4
        ·as_aux_lemma=>
         subst p4
         go_enter Tryz.func163,Tryz.ntmps163
         go_upto_region 1 with (fail)
         rw[←HB.out.1,←HB.out.2]
         go_wp2
         go_ret
         exact⟨by rw[bI.out];simp,H1.out.drop⟩
        ·by_cases p5:p=5
         ·as_aux_lemma=>
          subst p5
          go_enter Tryz.func163,Tryz.ntmps163
          go_upto_region 1 with (fail)
          rw[←HB.out.1,←HB.out.2]
          go_wp2
          go_ret
          exact⟨by rw[bI.out];simp,H1.out.drop⟩
         ·as_aux_lemma=>
          go_enter Tryz.func163,Tryz.ntmps163
          go_upto_region 1 with (fail)
          rw[←HB.out.1,←HB.out.2]
          go_wp2
          go_ret
          exact⟨by rw[bI.out];simp[o2,o1,p0,p3,p6,p4,p5],H1.out.drop⟩
    ·as_aux_lemma=>
     have q0':(p !=2&&p !=1&&q !=0)=true:=by simp[o2,o1,q0]
     have q1':(p !=2)=true:=by simpa using o2
     have q2':(p !=1)=true:=by simpa using o1
     have q3':(q !=0)=true:=by simpa using q0
     go_enter Tryz.func163,Tryz.ntmps163
     go_upto_region 1 with (fail)
     rw[←HB.out.1,←HB.out.2]
     go_wp2
     go_ret
     exact⟨by rw[bI.out];simp[o2,o1,q0],H1.out.drop⟩
  ·as_aux_lemma=>
   have n0':(0:Int)<(ni:Int):=by omega
   go_enter Tryz.func163,Tryz.ntmps163
   go_upto_region 1 with (fail)
   rw[←HB.out.1,←HB.out.2]
   go_wp2
   go_ret
   exact⟨by rw[bI.out];simp[o2,n0],H1.out.drop⟩
end Go.Proofs.YthfmaclnccdcbaaGreatDoor
namespace PA
open Go Go.RowKit
theorem pF {n m:Nat} {P:Program} {l:Nat} {f:FuncId} {tmps:Array Value} {assign body:Code} {w:World} {R:Ending→World→Prop} (h:RoundIn Fence.wide n P l f tmps assign body w R):RoundIn Fence.wide m P l f tmps assign body w R:=
 ⟨h.1,fun c cs _=>h.2 c cs (room_wide _)⟩
theorem vM {n m:Nat} {P:Program} {l:Nat} {args:Array Value} {w:World} {R:Ending→World→Prop} (h:YieldAt Fence.wide n P l args w R):YieldAt Fence.wide m P l args w R:=by
 obtain⟨fn,tmps,assign,body,hy,hR⟩:=h
 exact⟨fn,tmps,assign,body,hy,pF hR⟩
abbrev FV:=List Value×Fm
def pG (x:FV):Array Value:=#[.agg x.1.toArray]
def Df (I:Mem) (Pn:Fm→Prop) (x:FV):aB:=fact (rF.rel I x.1 x.2∧Pn x.2)
theorem Fm.Af {k:List Fm} {g x:Fm} (hg:g∈k) (hx:x∈g.nodes):x∈Fm.bJ k:=by
 induction k with
 | nil=>cases hg
 | cons f k ih=>
  rw[Fm.bJ]
  rcases List.mem_cons.1 hg with rfl|hg
  ·exact List.mem_append_left _ hx
  ·exact List.mem_append_right _ (ih hg)
theorem Fm.sD:∀f:Fm,f.nodes.length=f.size:=by
 intro f
 refine Fm.ind (P:=fun f=>f.nodes.length=f.size) (fun o n i k ih=>?_) f
 have key:∀l:List Fm,(∀g∈l,g.nodes.length=g.size)→(Fm.bJ l).length=Fm.sizes l:=by
  intro l
  induction l with
  | nil=>intro _;rfl
  | cons g l ihl=>
   intro h
   rw[Fm.bJ,Fm.sizes,fA,h g (by simp),ihl fun x hx=>h x (by simp[hx])]
 rw[Fm.nodes,Fm.size,List.length_cons,key k ih]
theorem Fm.IJ (l:List Fm) (f:Fm):Fm.bJ (l++[f])=Fm.bJ l++f.nodes:=by
 induction l with
 | nil=>simp[Fm.bJ]
 | cons g l ih=>rw[List.cons_append,Fm.bJ,Fm.bJ,ih,List.append_assoc]
theorem Fm.IK (l:List Fm) (i:Nat) {f:Fm} (h:l[i]?=some f):Fm.bJ (l.take (i+1))=Fm.bJ (l.take i)++f.nodes:=by
 rw[List.take_add_one,h];exact Fm.IJ _ _
theorem Fm.FH (l:List Fm) (i:Nat):Fm.bJ l=Fm.bJ (l.take i)++Fm.bJ (l.drop i):=by
 have key:∀a b:List Fm,Fm.bJ (a++b)=Fm.bJ a++Fm.bJ b:=by
  intro a b
  induction a with
  | nil=>rfl
  | cons g a ih=>rw[List.cons_append,Fm.bJ,Fm.bJ,ih,List.append_assoc]
 rw[←key,List.take_append_drop]
def D5 (W:World) (R Z:List FV→aB) (pre:List FV) (ys:List Fm) (B:aB) (b:Bool) (e:Ending) (w':World):Prop:=
 (e=.returned (.bool b)∧∃xs:List FV,xs.map (·.2)=ys∧Sat W w' (sep (R (pre++xs)) B))∨(e=.returned (.bool (!b))∧∃(xs:List FV) (rest:List Fm),xs.map (·.2)++rest=ys∧xs≠[]∧Sat W w' (sep (Z (pre++xs)) B))
end PA
namespace Go.Proofs.YthfmaclnccdcbaaGreatDoor
open Go.RowKit PA
attribute [local go_sem] Oper.semAt_some
def jI (lp yb wb:Nat):aB:=sep (blk yb (.cells #[.func (.yield lp) #[] #[]] 185 (0,0))) (blk wb (.cells #[.func (.func 173) #[] #[.pointer (some ⟨yb,0,none⟩),.pointer (some ⟨wb,0,none⟩)]] 185 (0,0)))
theorem zy {W w:World} {A:aB} {lp yb wb:Nat} (h:Sat W w (sep (jI lp yb wb) A)):w.cell? ⟨yb,0,none⟩=some (.func (.yield lp) #[] #[])∧w.cell? ⟨wb,0,none⟩=some (.func (.func 173) #[] #[.pointer (some ⟨yb,0,none⟩),.pointer (some ⟨wb,0,none⟩)]):=by
 unfold jI at h
 rw[aj] at h
 exact⟨h.cell 0,h.p1.cell 0⟩
def Down (W:World) (I:Mem) (Pn:Fm→Prop) (R Z:List FV→aB) (lp yb wb N:Nat) (f:Fm):Prop:=
 ∀(p q:Int) (x1:Option Addr) (n1 c1:Nat) (x2:Option Addr) (n2 c2:Nat) (pre:List FV) (w:World) (A:aB),rF.rel I [.int .i64 p,.int .i64 q,.slice x1 n1 c1,.slice x2 n2 c2] f→(∀g∈f.nodes,Pn g)→pre.length+f.size≤N →
  Sat W w (sep (R pre) (sep (jI lp yb wb) (sep (kn I) A))) →
  Calls Tryz.prog 173 #[.agg #[.int .i64 p,.int .i64 q,.slice x1 n1 c1,.slice x2 n2 c2],.pointer (some ⟨yb,0,none⟩),.pointer (some ⟨wb,0,none⟩)] w (D5 W R Z pre f.nodes (sep (jI lp yb wb) (sep (kn I) A)) true)
theorem TK {W:World} {I:Mem} {Pn:Fm→Prop} {R Z:List FV→aB} {lp yb wb N:Nat} {f:Fm} (hD:Down W I Pn R Z lp yb wb N f) (p q:Int) (x1:Option Addr) (n1 c1:Nat) (x2:Option Addr) (n2 c2:Nat) (pre:List FV) (w:World) (A:aB) (hr:rF.rel I [.int .i64 p,.int .i64 q,.slice x1 n1 c1,.slice x2 n2 c2] f) (hP:∀g∈f.nodes,Pn g) (hN:pre.length+f.size≤N)
 (h:Sat W w (sep (R pre) (sep (jI lp yb wb) (sep (kn I) A)))):
 Calls Tryz.prog 175 #[.agg #[.int .i64 p,.int .i64 q,.slice x1 n1 c1,.slice x2 n2 c2],.pointer (some ⟨wb,0,none⟩)] w (D5 W R Z pre f.nodes (sep (jI lp yb wb) (sep (kn I) A)) false):=by
 have h1:=h.alloc (.cells #[.int .i64 p,.int .i64 q,.slice x1 n1 c1,.slice x2 n2 c2] 34)
 obtain⟨B,hB⟩:=aC (w.heap.size)
 obtain⟨w1,hw1⟩:=aC (w.alloc (.cells #[.int .i64 p,.int .i64 q,.slice x1 n1 c1,.slice x2 n2 c2] 34))
 rw[←hB,←hw1] at h1
 obtain⟨k0,k1,k2,k3⟩:=kS h1
 obtain⟨-,e1⟩:=zy h1.p2
 have hd:=hD p q x1 n1 c1 x2 n2 c2 pre w1 (sep (blk B (.cells #[.int .i64 p,.int .i64 q,.slice x1 n1 c1,.slice x2 n2 c2] 34 (0,0))) A) hr hP hN (by simpa only[au,ak,aj] using h1)
 have HD:=ah hd
 have HB:=ah (And.intro hB hw1)
 clear h h1 hB hw1 hd hD hr hP hN
 go_enter Tryz.func175,Tryz.ntmps175
 go_upto_region 1 with (fail)
 rw[←HB.out.1,←HB.out.2]
 go_wp2_with fail
 refine HD.out.mono ?_
 rintro e w2 (⟨rfl,xs,hx,h2⟩|⟨rfl,xs,rest,hx,hne,h2⟩)
 ·have H2:Hid (Sat W w2 (sep (R (pre++xs)) (sep (jI lp yb wb) (sep (kn I) A)))):=ah (by
   have h3:Sat W w2 (sep (blk B (.cells #[.int .i64 p,.int .i64 q,.slice x1 n1 c1,.slice x2 n2 c2] 34 (0,0))) (sep (R (pre++xs)) (sep (jI lp yb wb) (sep (kn I) A)))):=by simpa only[au,ak,aj] using h2
   exact h3.forget)
  have HX:=ah hx
  clear h2 hx HD k0 k1 k2 k3 e1
  go_wp2
  go_ret
  exact .inl ⟨rfl,xs,HX.out,H2.out⟩
 ·have H2:Hid (Sat W w2 (sep (Z (pre++xs)) (sep (jI lp yb wb) (sep (kn I) A)))):=ah (by
   have h3:Sat W w2 (sep (blk B (.cells #[.int .i64 p,.int .i64 q,.slice x1 n1 c1,.slice x2 n2 c2] 34 (0,0))) (sep (Z (pre++xs)) (sep (jI lp yb wb) (sep (kn I) A)))):=by simpa only[au,ak,aj] using h2
   exact h3.forget)
  have HX:=ah (And.intro hx hne)
  clear h2 hx hne HD k0 k1 k2 k3 e1
  go_wp2
  go_ret
  exact .inr ⟨rfl,xs,rest,HX.out.1,HX.out.2,H2.out⟩
def VF (W:World) (R Z:List FV→aB) (pre:List FV) (ys:List Fm) (B:aB) (e:Ending) (w':World):Prop:=
 (e=.returned (.int .i64 (-1))∧∃xs:List FV,xs.map (·.2)=ys∧Sat W w' (sep (R (pre++xs)) B))∨∃j:Nat,e=.returned (.int .i64 j)∧∃(xs:List FV) (rest:List Fm),xs.map (·.2)++rest=ys∧xs≠[]∧Sat W w' (sep (Z (pre++xs)) B)
set_option maxRecDepth 100000 in
set_option maxHeartbeats 4000000 in
theorem TL {W:World} {I:Mem} {Pn:Fm→Prop} {R Z:List FV→aB} {lp yb wb N:Nat} {k:List Fm} (hD:∀g∈k,Down W I Pn R Z lp yb wb N g) (x2:Option Addr) (c2:Nat) (hk:(rF.slice 4).rel I [.slice x2 k.length c2] k) (hP:∀g∈Fm.bJ k,Pn g) (pre:List FV) (w:World) (A:aB) (hN:pre.length+Fm.sizes k≤N)
 (h:Sat W w (sep (R pre) (sep (jI lp yb wb) (sep (kn I) A)))):
 Calls Tryz.prog 202 #[.slice x2 k.length c2,.func (.func 175) #[] #[.pointer (some ⟨wb,0,none⟩)]] w (VF W R Z pre (Fm.bJ k) (sep (jI lp yb wb) (sep (kn I) A))):=by
 obtain⟨n,hn⟩:=aC (k.length)
 obtain⟨Po,fK⟩:=aC (VF W R Z pre (Fm.bJ k) (sep (jI lp yb wb) (sep (kn I) A)))
 rw[←fK]
 have hl63:=(aI hk).2.2
 rw[←hn] at hk hl63 ⊢
 have bP:=ah fK
 have HN:=ah (And.intro hn hN)
 have Xg:=ah hP
 have HK:=ah hk
 have HD:=ah hD
 have H:=ah h
 clear hn fK hk h hD hN hP
 go_enter Tryz.func202,Tryz.ntmps202
 go_wp2
 go_loopw [8] (fun iv wr=>∃(i:Nat) (xs:List FV),iv=.int .i64 i∧i≤n∧Hid (xs.map (·.2)=Fm.bJ (k.take i))∧Sat W wr (sep (R (pre++xs)) (sep (jI lp yb wb) (sep (kn I) A)))) (fun iv _=>n-(intOf iv).toNat)
 case atStart=>exact⟨0,[],rfl,by omega,ah (by simp[Fm.bJ]),by rw[List.append_nil];exact H.out⟩
 case round=>
  obtain⟨i,xs,rfl,hi,vH,hS⟩:=hrel
  clear H
  by_cases hlt:i<n
  ·as_aux_lemma=>
   have hltz:(i:Int)<(n:Int):=by omega
   obtain⟨g,hg⟩:∃g,k[i]?=some g:=⟨_,List.getElem?_eq_getElem (by have:=HN.out.1;omega)⟩
   obtain⟨b,o,p',q',y1,m1,d1,y2,m2,d2,rfl,hgr,hcell⟩:=gQ HK.out hg
   have hmem:g∈k:=List.mem_of_getElem? hg
   obtain⟨j0,j1,j2,j3⟩:=hcell wr hS.p2.ext
   have htk:=Fm.IK k i hg
   have hsz:(pre++xs).length+g.size≤N:=by
    have h1:xs.length=(Fm.bJ (k.take i)).length:=by rw[←vH.out,List.length_map]
    have h2:(Fm.bJ (k.take (i+1))).length=Fm.sizes (k.take (i+1)):=by
     have key:∀l:List Fm,(Fm.bJ l).length=Fm.sizes l:=by
      intro l
      induction l with
      | nil=>rfl
      | cons g l ih=>rw[Fm.bJ,Fm.sizes,fA,Fm.sD,ih]
     exact key _
    have h3:=Fm.oz k (i+1)
    rw[htk,fA,Fm.sD] at h2
    have:=HN.out.2
    rw[fA];omega
   have hc:=TK (HD.out g hmem) p' q' y1 m1 d1 y2 m2 d2 (pre++xs) wr A hgr (fun z hz=>Xg.out z (Fm.Af hmem hz)) hsz hS
   have HC:=ah hc
   have HT:=ah (And.intro htk (And.intro hlt hg))
   clear hgr hcell hmem htk hsz hc hg hlt hi hS
   go_wp2_with fail
   refine HC.out.mono ?_
   rintro e w2 (⟨rfl,ys,hy,h2⟩|⟨rfl,ys,rest,hy,hne,h2⟩)
   ·have H2:=ah h2
    have HY:Hid ((xs++ys).map (·.2)=Fm.bJ (k.take (i+1))):=ah (by rw[zi,vH.out,hy,HT.out.1])
    clear h2 hy HC j0 j1 j2 j3
    go_wp2
    go_roundw
    case rel=>exact⟨i+1,xs++ys,by go_num,by have:=HT.out.2.1;omega,HY,by rw[←List.append_assoc];exact H2.out⟩
    case measure=>simp[intOf];have:=HT.out.2.1;omega
   ·have H2:=ah h2
    have HY:Hid ((xs++ys).map (·.2)++(rest++Fm.bJ (k.drop (i+1)))=Fm.bJ k∧xs++ys≠[]):=ah ⟨by
     rw[zi,vH.out,Fm.FH k (i+1),HT.out.1,←hy]
     simp only[List.append_assoc],fun e=>hne (List.append_eq_nil_iff.1 e).2⟩
    clear h2 hy hne HC j0 j1 j2 j3
    go_wp2
    rw[bP.out]
    exact .inr ⟨i,rfl,xs++ys,_,HY.out.1,HY.out.2,by rw[←List.append_assoc];exact H2.out⟩
  ·obtain rfl:i=n:=by omega
   have hx:xs.map (·.2)=Fm.bJ k:=by rw[vH.out,List.take_of_length_le (by rw[←HN.out.1];exact Nat.le_refl _)]
   have HX:=ah (And.intro hx hS)
   clear hx hS hlt hi
   go_wp2
   rw[bP.out]
   exact .inl ⟨rfl,xs,HX.out.1,HX.out.2⟩
theorem fcontF {W:World} {I:Mem} {Pn:Fm→Prop} {R Z:List FV→aB} {lp yb wb N:Nat} {k:List Fm} (hD:∀g∈k,Down W I Pn R Z lp yb wb N g) (x2:Option Addr) (c2:Nat) (hk:(rF.slice 4).rel I [.slice x2 k.length c2] k) (hP:∀g∈Fm.bJ k,Pn g) (pre:List FV) (w:World) (A:aB) (hN:pre.length+Fm.sizes k≤N)
 (h:Sat W w (sep (R pre) (sep (jI lp yb wb) (sep (kn I) A)))):
 Calls Tryz.prog 174 #[.slice x2 k.length c2,.func (.func 175) #[] #[.pointer (some ⟨wb,0,none⟩)]] w (D5 W R Z pre (Fm.bJ k) (sep (jI lp yb wb) (sep (kn I) A)) false):=by
 have HI:=ah (TL hD x2 c2 hk hP pre w A hN h)
 obtain⟨n,hn⟩:=aC (k.length)
 rw[←hn] at HI ⊢
 clear hn hk h hD hN hP
 go_enter Tryz.func174,Tryz.ntmps174
 go_wp2_with fail
 refine HI.out.mono ?_
 rintro e w2 (⟨rfl,xs,hx,h2⟩|⟨j,rfl,xs,rest,hx,hne,h2⟩)
 ·have H2:=ah (And.intro hx h2)
  clear hx h2 HI
  go_wp2
  go_ret
  exact .inl ⟨rfl,xs,H2.out.1,H2.out.2⟩
 ·have H2:=ah (And.intro hx (And.intro hne h2))
  have hj:(0:Int)≤(j:Int):=by omega
  clear hx hne h2 HI
  go_wp2
  go_ret
  exact .inr ⟨by simp,xs,rest,H2.out.1,H2.out.2.1,H2.out.2.2⟩
end Go.Proofs.YthfmaclnccdcbaaGreatDoor

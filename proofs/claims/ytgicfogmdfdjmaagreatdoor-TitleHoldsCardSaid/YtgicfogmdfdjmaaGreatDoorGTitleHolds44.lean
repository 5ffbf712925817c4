/- Part of a proof. -/
import Derived.Test.YtgicfogmdfdjmaaGreatDoorGTitleHolds27
import Derived.Test.YtgicfogmdfdjmaaGreatDoorGTitleHolds2
namespace PA
open Go Go.RowKit
def Ah (E g N:Nat) (f:Nat→Rt):aG:=ex fun cur:Array Value=>sep (fact (∀i,i<N→cur[i*2]?=some (.int .i64 (f i).n)∧cur[i*2+1]?=some (.int .i64 (f i).d))) (blk g (.cells cur E (0,0)))
section
variable {W w:World} {A:aG} {E g N:Nat} {f:Nat→Rt}
theorem Sat.II (h:Sat W w (sep (Ah E g N f) A)):∃cur:Array Value,(∀i,i<N→cur[i*2]?=some (.int .i64 (f i).n)∧cur[i*2+1]?=some (.int .i64 (f i).d))∧Sat W w (sep (blk g (.cells cur E (0,0))) A):=by
 unfold Ah at h
 rw[dA,Sat.ex] at h
 obtain⟨cur,h⟩:=h
 rw[aj] at h
 exact⟨cur,Sat.fact.1 h⟩
theorem Sat.ZJ {cur:Array Value} (hc:∀i,i<N→cur[i*2]?=some (.int .i64 (f i).n)∧cur[i*2+1]?=some (.int .i64 (f i).d)) (h:Sat W w (sep (blk g (.cells cur E (0,0))) A)):Sat W w (sep (Ah E g N f) A):=by
 unfold Ah
 rw[dA,Sat.ex]
 exact⟨cur,by rw[aj];exact Sat.fact.2 ⟨hc,h⟩⟩
theorem Sat.zA (h:Sat W w (sep (Ah E g N f) A)) (i:Nat) (hi:i<N):w.cell? ⟨g,i*2,none⟩=some (.int .i64 (f i).n)∧w.cell? ⟨g,i*2+1,none⟩=some (.int .i64 (f i).d):=by
 obtain⟨cur,hc,h1⟩:=h.II
 exact⟨by rw[Sat.cell h1];exact (hc i hi).1,by rw[Sat.cell h1];exact (hc i hi).2⟩
theorem Sat.F8 (h:Sat W w (sep (Ah E g N f) A)) (i:Nat):w.frozen? ⟨g,i,none⟩=false:=by
 obtain⟨cur,hc,h1⟩:=h.II
 exact h1.aI i
theorem Sat.Ov (h:Sat W w (sep (Ah E g N f) A)) (i:Nat) (hi:i<N) (r:Rt):Sat W ((w.setCell ⟨g,i*2,none⟩ (.int .i64 r.n)).setCell ⟨g,i*2+1,none⟩ (.int .i64 r.d)) (sep (Ah E g N (rJ f i r)) A):=by
 obtain⟨cur,hc,h1⟩:=h.II
 have h2:=(Sat.setCell h1 (i*2) (.int .i64 r.n)).setCell (i*2+1) (.int .i64 r.d)
 refine Sat.ZJ (fun k hk=>?_) h2
 obtain⟨c1,c2⟩:=hc k hk
 obtain⟨d1,d2⟩:=hc i hi
 have l1:=(Array.getElem?_eq_some_iff.1 d1).1
 have l2:=(Array.getElem?_eq_some_iff.1 d2).1
 by_cases e:k=i
 ·subst e
  unfold rJ
  rw[if_pos rfl]
  refine⟨?_,?_⟩
  ·rw[Array.getElem?_setIfInBounds_ne (by omega),Array.getElem?_setIfInBounds_self_of_lt l1]
  ·rw[Array.getElem?_setIfInBounds_self_of_lt (by rw[Array.size_setIfInBounds];exact l2)]
 ·unfold rJ
  rw[if_neg e]
  refine⟨?_,?_⟩
  ·rw[Array.getElem?_setIfInBounds_ne (by omega),Array.getElem?_setIfInBounds_ne (by omega)];exact c1
  ·rw[Array.getElem?_setIfInBounds_ne (by omega),Array.getElem?_setIfInBounds_ne (by omega)];exact c2
end
def Dw (f:Nat→Rt) (p q:Nat) (r:Rt):(Nat→Rt)×Bool:=
 if (jB (f p) (negR r)).2≠0∨(jB (f q) r).2≠0∨(jB (f p) (negR r)).1.n<0 then (f,false) else (rJ (rJ f p (jB (f p) (negR r)).1) q (jB (f q) r).1,true)
theorem YV {S:l7} {f:Nat→Rt} (hf:∀k:Nat,f k=aQ S k) (x:Ac) {p q:Nat} (hp:x.p=p) (hq:x.q=q):
 (Dw f p q x.sh).2=(lN S x).2∧∀k:Nat,(Dw f p q x.sh).1 k=aQ (lN S x).1 k:=by
 unfold Dw lN uX
 rw[hp,hq,←hf p,←hf q]
 obtain⟨lo,hlo⟩:=aC (jB (f p) (negR x.sh))
 obtain⟨mo,hmo⟩:=aC (jB (f q) x.sh)
 rw[←hlo,←hmo]
 by_cases c1:lo.2≠0∨lo.1.n<0
 ·rw[if_pos c1,if_pos (by rcases c1 with h|h;exact .inl h;exact .inr (.inr h))]
  exact⟨rfl,hf⟩
 ·rw[if_neg c1]
  by_cases c2:mo.2≠0
  ·rw[if_pos c2,if_pos (.inr (.inl c2))]
   exact⟨rfl,hf⟩
  ·rw[if_neg c2,if_neg (by rintro (h|h|h);exact c1 (.inl h);exact c2 h;exact c1 (.inr h))]
   refine⟨rfl,fun k=>?_⟩
   show rJ (rJ f p lo.1) q mo.1 k=aQ (jd (jd S p lo.1) q mo.1) k
   have c1:((k:Int)=(q:Int))↔k=q:=by omega
   have c2:((k:Int)=(p:Int))↔k=p:=by omega
   have hk:=hf k
   unfold aQ at hk
   unfold rJ aQ jd
   simp only[c1,c2]
   by_cases e1:k=q
   ·simp[e1]
   ·by_cases e2:k=p
    ·subst e2
     simp only[e1,if_false,if_true];rfl
    ·simp only[e1,e2,if_false];exact hk
end PA
namespace Go.Proofs.YtgicfogmdfdjmaaGreatDoor
open Go.RowKit PA
def Dx (p:Nat) (vA:Value) (app:Int) (g c:Nat) (vF vD vL:Value) (f:Nat→Rt):aG:=sep (blk p (.cells #[vA,.int .i64 app,.slice (some ⟨g,0,none⟩) 4096 c,vF,vD,vL] 74 (0,0))) (Ah 57 g 4096 f)
theorem PU {W:World} {fn:FuncId} {args:Array Value} {v:Value} (h:∀(w:World) (A:aG),Sat W w A→Calls Tryz.prog fn args w fun e w'=>e=.returned v∧Sat W w' A):
 ∀(w:World) (A:aG),Sat W w (sep emp A)→Calls Tryz.prog fn args w fun e w'=>∃u,e=.returned u∧Sat W w' (sep (sep (fact (u=v)) emp) A):=fun w A h0=>(h w A (by rwa [bU] at h0)).mono (by
 rintro e w' ⟨rfl,h2⟩
 exact⟨_,rfl,by rw[aj];exact Sat.fact.2 ⟨rfl,by rw[bU];exact h2⟩⟩)
theorem V6 {W:World} {fn:FuncId} {args:Array Value} {v:Value} (h:∀(w:World) (A:aG),Sat W w A→Calls Tryz.prog fn args w fun e w'=>e=.returned v∧Sat W w' A):
 ∀(w:World) (A:aG),Sat W w (sep emp A)→Calls Tryz.prog fn args w fun e w'=>∃u,e=.returned u∧Sat W w' (sep (ex fun _:Unit=>sep (fact (u=v)) emp) A):=fun w A h0=>(h w A (by rwa [bU] at h0)).mono (by
 rintro e w' ⟨rfl,h2⟩
 exact⟨_,rfl,by rw[dA,Sat.ex];exact⟨(),by rw[aj];exact Sat.fact.2 ⟨rfl,by rw[bU];exact h2⟩⟩⟩)
set_option maxRecDepth 100000 in
set_option maxHeartbeats 4000000 in
theorem Ox {W w:World} {A:aG} {p g c:Nat} {vA vF vD vL:Value} {app:Int} {f:Nat→Rt} (x:Ac) (P Q:Nat) (hP:x.p=P) (hQ:x.q=Q) (hP2:P<4096) (hQ2:Q<4096) (hx:okR x.sh=true) (h:Sat W w (sep (Dx p vA app g c vF vD vL f) A)):
 Calls Tryz.prog 42 #[.pointer (some ⟨p,0,none⟩),.agg x.cells.toArray] w fun e w'=>e=.returned (.bool (Dw f P Q x.sh).2)∧Sat W w' (sep (Dx p vA app g c vF vD vL (Dw f P Q x.sh).1) A):=by
 obtain⟨I,hk⟩:=h.know
 obtain⟨J,hle,hJ,h1⟩:=(hk.alloc (.cells x.cells.toArray 67)).settle.learn
 obtain⟨B,hB⟩:=aC (w.heap.size)
 obtain⟨w1,hw1⟩:=aC (w.alloc (.cells x.cells.toArray 67))
 rw[←hB] at hJ
 rw[←hw1] at h1
 have HX:Hid (∀w',Ext J w'→w'.cell? ⟨B,5,none⟩=some (.int .i64 (P:Nat))∧w'.cell? ⟨B,6,none⟩=some (.int .i64 (Q:Nat))∧w'.cell? ⟨B,9,none⟩=some (.int .i64 x.sn)∧w'.cell? ⟨B,10,none⟩=some (.int .i64 x.sd)):=
  ah fun w' he=>⟨by rw[←hP];exact bJ hJ he 5,by rw[←hQ];exact bJ hJ he 6,bJ hJ he 9,bJ hJ he 10⟩
 have hb:=(dM hx).1
 obtain⟨lo,hlo⟩:=aC (jB (f P) (negR x.sh))
 obtain⟨mo,hmo⟩:=aC (jB (f Q) x.sh)
 obtain⟨res,hres⟩:=aC (Dw f P Q x.sh)
 have hcase:res=if lo.2≠0∨mo.2≠0∨lo.1.n<0 then (f,false) else (rJ (rJ f P lo.1) Q mo.1,true):=by rw[hres,hlo,hmo];rfl
 rw[←hres]
 have HC:=ah hcase
 obtain⟨s1,hs1⟩:=aC (f P)
 obtain⟨s2,hs2⟩:=aC (f Q)
 have ac8:Hid (∀w0 A0,Sat W w0 A0→Calls Tryz.prog 59 #[.agg #[.int .i64 x.sn,.int .i64 x.sd]] w0 fun e w'=>e=.returned (.agg #[.int .i64 (-x.sn),.int .i64 x.sd])∧Sat W w' A0):=
  ah fun w0 A0 h0=>Rz x.sn x.sd (by have h1:=hb.n1;have h2:=hb.n2;unfold Ac.sh at h1 h2;simp only at h1 h2;omega) h0
 have Ut:Hid (∀w0 A0,Sat W w0 A0→Calls Tryz.prog 58 #[.agg #[.int .i64 s1.n,.int .i64 s1.d],.agg #[.int .i64 (-x.sn),.int .i64 x.sd]] w0 fun e w'=>e=.returned (eX lo)∧Sat W w' A0):=
  ah fun w0 A0 h0=>by rw[hlo,hs1];exact F7 (f P) (negR x.sh) h0
 have JG:Hid (∀w0 A0,Sat W w0 A0→Calls Tryz.prog 58 #[.agg #[.int .i64 s2.n,.int .i64 s2.d],.agg #[.int .i64 x.sn,.int .i64 x.sd]] w0 fun e w'=>e=.returned (eX mo)∧Sat W w' A0):=
  ah fun w0 A0 h0=>by rw[hmo,hs2];exact F7 (f Q) x.sh h0
 have HB:=ah hB
 have HW1:=ah hw1
 have gQ:=ah hle
 have IL:Hid (∀w' Y,Sat W w' (sep Y (sep (kn J) (sep (Dx p vA app g c vF vD vL f) A)))→((w'.cell? ⟨B,5,none⟩=some (.int .i64 (P:Nat))∧w'.cell? ⟨B,6,none⟩=some (.int .i64 (Q:Nat))∧w'.cell? ⟨B,9,none⟩=some (.int .i64 x.sn)∧w'.cell? ⟨B,10,none⟩=some (.int .i64 x.sd)) ∧
  w'.cell? ⟨p,2,none⟩=some (.slice (some ⟨g,0,none⟩) 4096 c)∧(w'.cell? ⟨g,P*2,none⟩=some (.int .i64 s1.n)∧w'.cell? ⟨g,P*2+1,none⟩=some (.int .i64 s1.d))∧w'.cell? ⟨g,Q*2,none⟩=some (.int .i64 s2.n)∧w'.cell? ⟨g,Q*2+1,none⟩=some (.int .i64 s2.d))):=ah fun w' Y hY=>by
  have e1:=hY.p1.ext
  have e2:=hY.p2
  unfold Dx at e2
  rw[aj] at e2
  have e3:Sat W w' (sep (blk p (.cells #[vA,.int .i64 app,.slice (some ⟨g,0,none⟩) 4096 c,vF,vD,vL] 74 (0,0))) (sep (Ah 57 g 4096 f) (sep Y (sep (kn J) A)))):=by simpa only[ay,au,aj] using e2
  have e4:Sat W w' (sep (Ah 57 g 4096 f) (sep (blk p (.cells #[vA,.int .i64 app,.slice (some ⟨g,0,none⟩) 4096 c,vF,vD,vL] 74 (0,0))) (sep Y (sep (kn J) A)))):=by simpa only[ay,au,aj] using e2
  rw[hs1,hs2]
  exact⟨HX.out w' e1,e3.cell 2,e4.zA P hP2,e4.zA Q hQ2⟩
 have hPz:(P:Int)<4096:=by omega
 have hQz:(Q:Int)<4096:=by omega
 have HPQ:=ah (And.intro hP2 hQ2)
 clear hB hw1 hle hJ hk h hx hlo hmo hres hcase hs1 hs2 hb hP2 hQ2
 go_enter Tryz.func42,Tryz.ntmps42
 go_upto_region 1 with (fail)
 rw[←HB.out,←HW1.out]
 have hd:=h1.drew
 have HH1:Hid (Sat W w1.drew (sep emp (sep (kn J) (sep (Dx p vA app g c vF vD vL f) A)))):=ah (by rw[bU];exact hd)
 have hS0:=IL.out w1.drew _ HH1.out
 clear h1 hd
 refine ji rfl (fun w'=>(w'.cell? ⟨B,5,none⟩=some (.int .i64 (P:Nat))∧w'.cell? ⟨B,6,none⟩=some (.int .i64 (Q:Nat))∧w'.cell? ⟨B,9,none⟩=some (.int .i64 x.sn)∧w'.cell? ⟨B,10,none⟩=some (.int .i64 x.sd))∧w'.cell? ⟨p,2,none⟩=some (.slice (some ⟨g,0,none⟩) 4096 c)∧(w'.cell? ⟨g,P*2,none⟩=some (.int .i64 s1.n)∧w'.cell? ⟨g,P*2+1,none⟩=some (.int .i64 s1.d))∧w'.cell? ⟨g,Q*2,none⟩=some (.int .i64 s2.n)∧w'.cell? ⟨g,Q*2+1,none⟩=some (.int .i64 s2.d)) [.one 0 .p,.one 1 .p,.one 2 .p,.one 3 .s,.one 4 .p,.one 5 .s,.one 6 .p,.one 7 .s,.one 8 .p,.one 9 .s,.grp true [(10,[]),(11,[12,13,14]),(15,[])],.one 16 (.e false),.one 17 .p] (by kernel_rfl) ?_
 (repeat ((first|(refine Gq (v:=?_) rfl rfl (fun w'=>?_) ?_;rotate_left;(go_simp;with_reducible rfl))|(refine Gs (v:=?_) rfl rfl hS0 (fun w' hS=>?_) ?_;rotate_left;((try dsimp only at hS);go_simp;with_reducible rfl))|(refine Gt (v:=?_) rfl rfl ?_ ?_;rotate_left;(go_simp;with_reducible rfl))|(refine pG rfl rfl ?_)|(refine pI rfl rfl hS0 ?_)|(refine pJ rfl rfl ?_));simp only[Act.put,lsA,lsB,bC]))
 refine nS (W:=W) (A:=sep (kn J) (sep (Dx p vA app g c vF vD vL f) A)) [⟨[(10,[]),(11,[12,13,14])],vV emp emp emp (.agg #[.int .i64 (-x.sn),.int .i64 x.sd]) (eX lo) (Zr lo)⟩,⟨[(15,[])],tailA emp jI (fun g=>blk g (.cells #[.int .i64 0,.int .i64 0] 57 (0,0))) (fun _=>[])⟩]
  (fun _ w' X hX=>IL.out w' _ hX) (by kernel_rfl) ?_ ?_ ?_
 ·intro t ht
  simp only[List.mem_cons,List.not_mem_nil,or_false] at ht
  rcases ht with rfl|rfl
  ·refine sU (di:=some 20) rfl rfl (by intro cs b h;cases h) rfl (by intro cs b h;cases h) (by kernel_rfl) (iY rfl 59 #[.agg #[.int .i64 x.sn,.int .i64 x.sd]] (fun w'=>?_) (PU ac8.out)) (iY rfl 58 #[.agg #[.int .i64 s1.n,.int .i64 s1.d],.agg #[.int .i64 (-x.sn),.int .i64 x.sd]] (fun w'=>?_) (PU Ut.out)) (fun _=>rfl) (by kernel_rfl) ?_
   ·(go_simp;try rfl)
   ·(go_simp;try rfl)
   ·refine⟨⟨_,rfl,fun w'=>?_⟩,⟨_,rfl,fun w'=>?_⟩,⟨_,rfl,fun w'=>?_⟩,trivial⟩
    all_goals (unfold eX;go_simp;try rfl)
  ·refine iZ rfl (by intro cs b h;cases h) (kE rfl (fun w'=>?_)) rfl ?_
   ·(go_simp;try rfl)
   ·intro _ _ _;trivial
 ·show Sat W w1.drew (sep emp (sep emp (sep (kn J) (sep (Dx p vA app g c vF vD vL f) A))))
  rw[bU]
  exact HH1.out
 ·intro Wy h1 RU h2 w7 h7
  obtain⟨rfl,h8⟩:=sS h1 rfl (show Sat W w7 (sep (vV emp emp emp (.agg #[.int .i64 (-x.sn),.int .i64 x.sd]) (eX lo) (Zr lo) (Wy.map (·.2))) (sep (tailA emp jI (fun g=>blk g (.cells #[.int .i64 0,.int .i64 0] 57 (0,0))) (fun _=>[]) (RU.map (·.2))) (sep (kn J) (sep (Dx p vA app g c vF vD vL f) A)))) from h7.p1)
  rw[bU] at h8
  obtain⟨v10,gl,rfl,hg,h9⟩:=jc h2 (fun _=>rfl) h8
  unfold jI at hg
  subst hg
  change jT _ _ _ _ _ _ ((((((Act.put _ (some 20) (.agg #[.int .i64 (-x.sn),.int .i64 x.sd])).put (some 21) (eX lo)).put (some 9) (eX lo)).put (some 22) (.agg #[.int .i64 lo.1.n,.int .i64 lo.1.d])).put (some 23) (.int .i64 lo.2)).put (some 5) (.pointer (some ⟨gl,0,none⟩))) _
  simp only[Act.put,lsA,lsB,bC]
  obtain⟨⟨ln,ld⟩,le⟩:=lo
  simp only[eX]
  obtain⟨k0,k1,k2,k3⟩:=gX h9
  have h10:=fH h9 (.int .i64 ln) (.int .i64 ld)
  obtain⟨w8,hw8⟩:=aC ((w7.setCell ⟨gl,0,none⟩ (.int .i64 ln)).setCell ⟨gl,1,none⟩ (.int .i64 ld))
  rw[←hw8] at h10
  have JJ:=ah hw8
  have nO:=ah h10
  clear h1 h2 h7 h8 h9 hw8 h10 HH1 hS0 ac8 Ut
  (repeat ((first|(refine Gq (v:=?_) rfl rfl (fun w'=>?_) ?_;rotate_left;(go_simp;with_reducible rfl))|(refine Gs (v:=?_) rfl rfl hS0 (fun w' hS=>?_) ?_;rotate_left;((try dsimp only at hS);go_simp;with_reducible rfl))|(refine Gt (v:=?_) rfl rfl ?_ ?_;rotate_left;(go_simp;with_reducible rfl))|(refine pG rfl rfl ?_)|(refine pI rfl rfl hS0 ?_)|(refine pJ rfl rfl ?_));simp only[Act.put,lsA,lsB,bC]))
  (refine Y5 rfl rfl (fun K hK=>?_);go_simp)
  rw[←JJ.out]
  (refine hK _ _ (fun h=>by cases h) ?_;clear hK K;(try simp only[Act.put,lsA,lsB,bC]))
  (repeat ((first|(refine Gq (v:=?_) rfl rfl (fun w'=>?_) ?_;rotate_left;(go_simp;with_reducible rfl))|(refine Gs (v:=?_) rfl rfl hS0 (fun w' hS=>?_) ?_;rotate_left;((try dsimp only at hS);go_simp;with_reducible rfl))|(refine Gt (v:=?_) rfl rfl ?_ ?_;rotate_left;(go_simp;with_reducible rfl))|(refine pG rfl rfl ?_)|(refine pI rfl rfl hS0 ?_)|(refine pJ rfl rfl ?_));simp only[Act.put,lsA,lsB,bC]))
  refine vY ?_
  clear k0 k1 k2 k3 JJ
  go_wp2
  have hd:=nO.out.drew
  obtain⟨w9,Uu⟩:=aC (w8.drew)
  rw[←Uu] at hd
  have HW9:=ah Uu
  obtain⟨AL,hAL⟩:=aC (sep (blk gl (.cells #[.int .i64 ln,.int .i64 ld] 57 (0,0))) A)
  have EO:=ah hAL
  have HH2:Hid (Sat W w9 (sep (kn J) (sep (Dx p vA app g c vF vD vL f) AL))):=ah (by rw[hAL];simpa only[ay,au,aj] using hd)
  have HF2:Hid (∀w' Y,Sat W w' (sep Y (sep (kn J) (sep (Dx p vA app g c vF vD vL f) AL)))→((w'.cell? ⟨B,5,none⟩=some (.int .i64 (P:Nat))∧w'.cell? ⟨B,6,none⟩=some (.int .i64 (Q:Nat))∧w'.cell? ⟨B,9,none⟩=some (.int .i64 x.sn)∧w'.cell? ⟨B,10,none⟩=some (.int .i64 x.sd)) ∧
   w'.cell? ⟨p,2,none⟩=some (.slice (some ⟨g,0,none⟩) 4096 c)∧(w'.cell? ⟨g,P*2,none⟩=some (.int .i64 s1.n)∧w'.cell? ⟨g,P*2+1,none⟩=some (.int .i64 s1.d))∧w'.cell? ⟨g,Q*2,none⟩=some (.int .i64 s2.n)∧w'.cell? ⟨g,Q*2+1,none⟩=some (.int .i64 s2.d))):=ah fun w' Y hY=>IL.out w' (sep (blk gl (.cells #[.int .i64 ln,.int .i64 ld] 57 (0,0))) Y) (by rw[hAL] at hY;simpa only[ay,au,aj] using hY)
  have hS0:=HF2.out w9 emp (by rw[bU];exact HH2.out)
  clear Uu hd nO hAL IL
  refine ji rfl (fun w'=>(w'.cell? ⟨B,5,none⟩=some (.int .i64 (P:Nat))∧w'.cell? ⟨B,6,none⟩=some (.int .i64 (Q:Nat))∧w'.cell? ⟨B,9,none⟩=some (.int .i64 x.sn)∧w'.cell? ⟨B,10,none⟩=some (.int .i64 x.sd))∧w'.cell? ⟨p,2,none⟩=some (.slice (some ⟨g,0,none⟩) 4096 c)∧(w'.cell? ⟨g,P*2,none⟩=some (.int .i64 s1.n)∧w'.cell? ⟨g,P*2+1,none⟩=some (.int .i64 s1.d))∧w'.cell? ⟨g,Q*2,none⟩=some (.int .i64 s2.n)∧w'.cell? ⟨g,Q*2+1,none⟩=some (.int .i64 s2.d)) [.one 0 .p,.one 1 .p,.one 2 .p,.one 3 .s,.one 4 .p,.one 5 .s,.one 6 .p,.one 7 .s,.one 8 .p,.one 9 .s,.grp true [(10,[11,12,13]),(14,[])],.one 15 (.e false),.one 16 .p] (by kernel_rfl) ?_
  rw[←HW9.out]
  (repeat ((first|(refine Gq (v:=?_) rfl rfl (fun w'=>?_) ?_;rotate_left;(go_simp;with_reducible rfl))|(refine Gs (v:=?_) rfl rfl hS0 (fun w' hS=>?_) ?_;rotate_left;((try dsimp only at hS);go_simp;with_reducible rfl))|(refine Gt (v:=?_) rfl rfl ?_ ?_;rotate_left;(go_simp;with_reducible rfl))|(refine pG rfl rfl ?_)|(refine pI rfl rfl hS0 ?_)|(refine pJ rfl rfl ?_));simp only[Act.put,lsA,lsB,bC]))
  refine nS (W:=W) (A:=sep (kn J) (sep (Dx p vA app g c vF vD vL f) AL)) [⟨[(10,[11,12,13])],tailA emp (fun (_:Unit) v=>v=eX mo) (fun _=>emp) (fun _=>Zr mo)⟩,⟨[(14,[])],tailA emp jI (fun g=>blk g (.cells #[.int .i64 0,.int .i64 0] 57 (0,0))) (fun _=>[])⟩]
   (fun _ w' X hX=>HF2.out w' _ hX) (by kernel_rfl) ?_ ?_ ?_
  ·intro t ht
   simp only[List.mem_cons,List.not_mem_nil,or_false] at ht
   rcases ht with rfl|rfl
   ·refine iZ rfl (by intro cs b h;cases h) (iY rfl 58 #[.agg #[.int .i64 s2.n,.int .i64 s2.d],.agg #[.int .i64 x.sn,.int .i64 x.sd]] (fun w'=>?_) (V6 JG.out)) (by kernel_rfl) ?_
    ·(go_simp;try rfl)
    ·rintro _ v rfl
     refine⟨⟨_,rfl,fun w'=>?_⟩,⟨_,rfl,fun w'=>?_⟩,⟨_,rfl,fun w'=>?_⟩,trivial⟩
     all_goals (unfold eX;go_simp;try rfl)
   ·refine iZ rfl (by intro cs b h;cases h) (kE rfl (fun w'=>?_)) rfl ?_
    ·(go_simp;try rfl)
    ·intro _ _ _;trivial
  ·show Sat W w9 (sep emp (sep emp (sep (kn J) (sep (Dx p vA app g c vF vD vL f) AL))))
   rw[bU,bU]
   exact HH2.out
  ·intro Wy h1 RU h2 w10 h7
   obtain⟨v9,u9,rfl,rfl,h8⟩:=jc h1 (fun _=>rfl) (show Sat W w10 (sep (tailA emp (fun (_:Unit) v=>v=eX mo) (fun _=>emp) (fun _=>Zr mo) (Wy.map (·.2))) (sep (tailA emp jI (fun g=>blk g (.cells #[.int .i64 0,.int .i64 0] 57 (0,0))) (fun _=>[]) (RU.map (·.2))) (sep (kn J) (sep (Dx p vA app g c vF vD vL f) AL)))) from h7.p1)
   rw[bU] at h8
   obtain⟨v10,g2,rfl,hg,h9⟩:=jc h2 (fun _=>rfl) h8
   unfold jI at hg
   subst hg
   change jT _ _ _ _ _ _ (((((Act.put _ (some 35) (eX mo)).put (some 24) (eX mo)).put (some 36) (.agg #[.int .i64 mo.1.n,.int .i64 mo.1.d])).put (some 37) (.int .i64 mo.2)).put (some 7) (.pointer (some ⟨g2,0,none⟩))) _
   simp only[Act.put,lsA,lsB,bC]
   obtain⟨⟨mn,md⟩,me⟩:=mo
   simp only[eX]
   obtain⟨k0,k1,k2,k3⟩:=gX h9
   have h10:=fH h9 (.int .i64 mn) (.int .i64 md)
   obtain⟨LG,Nc⟩:=aC ((w10.setCell ⟨g2,0,none⟩ (.int .i64 mn)).setCell ⟨g2,1,none⟩ (.int .i64 md))
   rw[←Nc] at h10
   have Uw:=ah Nc
   rw[EO.out] at h10
   have vX:=ah h10
   clear h1 h2 h7 h8 h9 Nc h10 HH2 hS0 HW9 JG HF2
   (repeat ((first|(refine Gq (v:=?_) rfl rfl (fun w'=>?_) ?_;rotate_left;(go_simp;with_reducible rfl))|(refine Gs (v:=?_) rfl rfl hS0 (fun w' hS=>?_) ?_;rotate_left;((try dsimp only at hS);go_simp;with_reducible rfl))|(refine Gt (v:=?_) rfl rfl ?_ ?_;rotate_left;(go_simp;with_reducible rfl))|(refine pG rfl rfl ?_)|(refine pI rfl rfl hS0 ?_)|(refine pJ rfl rfl ?_));simp only[Act.put,lsA,lsB,bC]))
   (refine Y5 rfl rfl (fun K hK=>?_);go_simp)
   rw[←Uw.out]
   (refine hK _ _ (fun h=>by cases h) ?_;clear hK K;(try simp only[Act.put,lsA,lsB,bC]))
   (repeat ((first|(refine Gq (v:=?_) rfl rfl (fun w'=>?_) ?_;rotate_left;(go_simp;with_reducible rfl))|(refine Gs (v:=?_) rfl rfl hS0 (fun w' hS=>?_) ?_;rotate_left;((try dsimp only at hS);go_simp;with_reducible rfl))|(refine Gt (v:=?_) rfl rfl ?_ ?_;rotate_left;(go_simp;with_reducible rfl))|(refine pG rfl rfl ?_)|(refine pI rfl rfl hS0 ?_)|(refine pJ rfl rfl ?_));simp only[Act.put,lsA,lsB,bC]))
   refine vY ?_
   clear k0 k1 k2 k3 Uw
   have hgl:Sat W LG (sep (blk gl (.cells #[.int .i64 ln,.int .i64 ld] 57 (0,0))) (sep (blk g2 (.cells #[.int .i64 mn,.int .i64 md] 57 (0,0))) (sep (kn J) (sep (Dx p vA app g c vF vD vL f) A)))):=by have:=vX.out;simpa only[ay,au,aj] using this
   obtain⟨j0,j1,-,-⟩:=gX hgl
   have iR:Hid (Sat W LG (sep (Dx p vA app g c vF vD vL f) A)):=ah hgl.drop.drop.drop
   by_cases c0:le≠0∨me≠0∨ln<0
   ·have hr:res=(f,false):=by rw[HC.out,if_pos c0]
    have HR:=ah hr
    clear hr hgl
    by_cases c1:le=0
    ·subst c1
     by_cases c2:me=0
     ·subst c2
      have c3:ln<0:=by omega
      clear c0
      go_wp2
      go_ret
      rw[HR.out]
      exact⟨rfl,iR.out⟩
     ·have hz:(me !=0)=true:=by simp[c2]
      clear c0
      go_wp2
      go_ret
      rw[HR.out]
      exact⟨rfl,iR.out⟩
    ·have hz:(le !=0)=true:=by simp[c1]
     clear c0
     go_wp2
     go_ret
     rw[HR.out]
     exact⟨rfl,iR.out⟩
   ·obtain rfl:le=0:=by omega
    obtain rfl:me=0:=by omega
    have c3:¬ln<0:=by omega
    have hr:res=(rJ (rJ f P ⟨ln,ld⟩) Q ⟨mn,md⟩,true):=by rw[HC.out,if_neg c0]
    have HR:=ah hr
    have HGL:=ah hgl
    clear hr hgl c0
    go_wp2
    have hd:=HGL.out.drew
    obtain⟨w12,Oy⟩:=aC (LG.drew)
    rw[←Oy] at hd
    have V7:=ah Oy
    clear j0 j1 Oy HGL iR vX
    obtain⟨j0,j1,-,-⟩:=gX hd
    have hsh:Sat W w12 (sep (Ah 57 g 4096 f) (sep (blk p (.cells #[vA,.int .i64 app,.slice (some ⟨g,0,none⟩) 4096 c,vF,vD,vL] 74 (0,0))) (sep (kn J) (sep (blk g2 (.cells #[.int .i64 mn,.int .i64 md] 57 (0,0))) (sep (blk gl (.cells #[.int .i64 ln,.int .i64 ld] 57 (0,0))) A))))):=by unfold Dx at hd;simpa only[ay,au,aj] using hd
    have cx:=(HX.out w12 hsh.p2.ext).1
    have cp:w12.cell? ⟨p,2,none⟩=some (.slice (some ⟨g,0,none⟩) 4096 c):=hsh.p1.cell 2
    have u0:=hsh.zA P HPQ.out.1
    have f0:=hsh.F8 (P*2)
    have f1:=hsh.F8 (P*2+1)
    have hs2:=hsh.Ov P HPQ.out.1 ⟨ln,ld⟩
    obtain⟨Je,xH⟩:=aC ((w12.setCell ⟨g,P*2,none⟩ (.int .i64 ln)).setCell ⟨g,P*2+1,none⟩ (.int .i64 ld))
    have V8:=ah xH
    have HS2:Hid (Sat W Je _):=ah (by rw[xH];exact hs2)
    have hS0:True:=trivial
    obtain⟨v0,v1⟩:=u0
    clear hd hsh hs2 xH
    refine aA rfl (fun _=>True) [(0,.p),(1,.p),(2,.p),(3,.t),(4,.p),(5,.t),(6,.t),(7,.p),(8,.e false)] (by kernel_rfl) ?_
    rw[←V7.out]
    (repeat ((first|(refine eF (v:=?_) rfl rfl (fun w'=>?_) ?_;rotate_left;(go_simp;with_reducible rfl))|(refine eG (v:=?_) rfl rfl hS0 (fun w' hS=>?_) ?_;rotate_left;((try dsimp only at hS);go_simp;with_reducible rfl))|(refine eH (v:=?_) rfl rfl ?_ ?_;rotate_left;(go_simp;with_reducible rfl))|(refine bD rfl rfl ?_)|(refine bG rfl rfl hS0 ?_)|(refine bH rfl rfl ?_));simp only[Act.put,lsA,lsB,bC]))
    (refine iQ rfl rfl (fun K hK=>?_);go_simp)
    rw[←V8.out]
    (refine hK _ _ (fun h=>by cases h) ?_;clear hK K;(try simp only[Act.put,lsA,lsB,bC]))
    refine bM ?_
    clear j0 j1 cx cp v0 v1 f0 f1 V7 V8
    go_wp2
    have hsh:=HS2.out.drew
    obtain⟨ZY,MC⟩:=aC (Je.drew)
    rw[←MC] at hsh
    have Xk:=ah MC
    obtain⟨j0,j1,-,-⟩:=gX hsh.p3
    have cx:=(HX.out ZY hsh.p2.ext).2.1
    have cp:ZY.cell? ⟨p,2,none⟩=some (.slice (some ⟨g,0,none⟩) 4096 c):=hsh.p1.cell 2
    obtain⟨v0,v1⟩:=hsh.zA Q HPQ.out.2
    have f0:=hsh.F8 (Q*2)
    have f1:=hsh.F8 (Q*2+1)
    have hs2:=hsh.Ov Q HPQ.out.2 ⟨mn,md⟩
    obtain⟨Z5,MN⟩:=aC ((ZY.setCell ⟨g,Q*2,none⟩ (.int .i64 mn)).setCell ⟨g,Q*2+1,none⟩ (.int .i64 md))
    have Xo:=ah MN
    have EL:Hid (Sat W Z5 _):=ah (by rw[MN];exact hs2)
    clear hsh hs2 MC MN HS2
    refine aA rfl (fun _=>True) [(0,.p),(1,.p),(2,.p),(3,.t),(4,.p),(5,.t),(6,.t),(7,.p),(8,.e false)] (by kernel_rfl) ?_
    rw[←Xk.out]
    (repeat ((first|(refine eF (v:=?_) rfl rfl (fun w'=>?_) ?_;rotate_left;(go_simp;with_reducible rfl))|(refine eG (v:=?_) rfl rfl hS0 (fun w' hS=>?_) ?_;rotate_left;((try dsimp only at hS);go_simp;with_reducible rfl))|(refine eH (v:=?_) rfl rfl ?_ ?_;rotate_left;(go_simp;with_reducible rfl))|(refine bD rfl rfl ?_)|(refine bG rfl rfl hS0 ?_)|(refine bH rfl rfl ?_));simp only[Act.put,lsA,lsB,bC]))
    (refine iQ rfl rfl (fun K hK=>?_);go_simp)
    rw[←Xo.out]
    (refine hK _ _ (fun h=>by cases h) ?_;clear hK K;(try simp only[Act.put,lsA,lsB,bC]))
    refine bM ?_
    go_wp2
    go_ret
    rw[HR.out]
    refine⟨rfl,?_⟩
    have:=EL.out
    unfold Dx
    have h6:Sat W Z5 (sep (blk gl (.cells #[.int .i64 ln,.int .i64 ld] 57 (0,0))) (sep (blk g2 (.cells #[.int .i64 mn,.int .i64 md] 57 (0,0))) (sep (kn J) (sep (sep (blk p (.cells #[vA,.int .i64 app,.slice (some ⟨g,0,none⟩) 4096 c,vF,vD,vL] 74 (0,0))) (Ah 57 g 4096 (rJ (rJ f P ⟨ln,ld⟩) Q ⟨mn,md⟩))) A)))):=by simpa only[ay,au,aj] using this
    exact h6.drop.drop.drop
end Go.Proofs.YtgicfogmdfdjmaaGreatDoor

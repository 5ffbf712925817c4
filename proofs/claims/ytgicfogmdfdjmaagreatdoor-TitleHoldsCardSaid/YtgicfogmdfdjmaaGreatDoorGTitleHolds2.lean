/- Part of a proof. -/
import Derived.Test.YtgicfogmdfdjmaaGreatDoorGTitleHolds1
namespace Go.Proofs.YtgicfogmdfdjmaaGreatDoor
open Go.RowKit PA
theorem bJ {J:Mem} {B:Nat} {x:Ac} (hJ:J B=some (.cells x.cells.toArray 67 (0,0))) {w':World} (he:Ext J w') (i:Nat):w'.cell? ⟨B,i,none⟩=x.cells[i]?:=by
 rw[cell_of_row w' B i _ _ _ (he _ _ hJ)]
 simp
def jI (g:Nat) (v:Value):Prop:=v=.pointer (some ⟨g,0,none⟩)
def Zr (r:Rt×Int):List Value:=[eX r,.agg #[.int .i64 r.1.n,.int .i64 r.1.d],.int .i64 r.2]
set_option maxRecDepth 100000 in
set_option maxHeartbeats 4000000 in
theorem EY {W w:World} {A:aG} {p:Nat} {app:Int} {S:l7} (x:Ac) (hx:okR x.sh=true) (hS:uY S) (h:Sat W w (sep (l9 p app S) A)):
 Calls Tryz.prog 39 #[.pointer (some ⟨p,0,none⟩),.agg x.cells.toArray] w fun e w'=>e=.returned (.bool (lN S x).2)∧Sat W w' (sep (l9 p app (lN S x).1) A):=by
 obtain⟨I,hk⟩:=h.know
 obtain⟨J,hle,hJ,h1⟩:=(hk.alloc (.cells x.cells.toArray 67)).settle.learn
 obtain⟨B,hB⟩:=aC (w.heap.size)
 obtain⟨w1,hw1⟩:=aC (w.alloc (.cells x.cells.toArray 67))
 rw[←hB] at hJ
 rw[←hw1] at h1
 have HX:Hid (∀w',Ext J w'→w'.cell? ⟨B,5,none⟩=some (.int .i64 x.p)∧w'.cell? ⟨B,6,none⟩=some (.int .i64 x.q)∧w'.cell? ⟨B,9,none⟩=some (.int .i64 x.sn)∧w'.cell? ⟨B,10,none⟩=some (.int .i64 x.sd)):=
  ah fun w' he=>⟨bJ hJ he 5,bJ hJ he 6,bJ hJ he 9,bJ hJ he 10⟩
 have ha:=Qo.of (dM hx).1
 have hna:=Qo.of (dM (Xz hx)).1
 obtain⟨lo,hlo⟩:=aC (uX (aQ S x.p) x.sh)
 obtain⟨mo,hmo⟩:=aC (jB (aQ S x.q) x.sh)
 obtain⟨res,hres⟩:=aC (lN S x)
 have hcase:res=if lo.2≠0∨lo.1.n<0 then (S,false) else if mo.2≠0 then (S,false) else (jd (jd S x.p lo.1) x.q mo.1,true):=by rw[hres,hlo,hmo];rfl
 rw[←hres]
 have HC:=ah hcase
 have Ut:Hid (∀w0 A0,Sat W w0 (sep (l9 p app S) A0)→Calls Tryz.prog 55 #[.agg #[.int .i64 (aQ S x.p).n,.int .i64 (aQ S x.p).d],.agg #[.int .i64 x.sn,.int .i64 x.sd]] w0 fun e w'=>∃v,e=.returned v∧Sat W w' (sep (sep (fact (v=eX lo)) (l9 p app S)) A0)):=
  ah fun w0 A0 h0=>(Uk (aQ S x.p) x.sh (Qo.of (dM (hS.share _).1).1) ha hna h0).mono (by
   rintro e w' ⟨rfl,h2⟩
   exact⟨_,rfl,by rw[aj];exact Sat.fact.2 ⟨by rw[hlo],h2⟩⟩)
 have JG:Hid (∀w0 A0,Sat W w0 (sep (l9 p app S) A0)→Calls Tryz.prog 56 #[.agg #[.int .i64 (aQ S x.q).n,.int .i64 (aQ S x.q).d],.agg #[.int .i64 x.sn,.int .i64 x.sd]] w0 fun e w'=>∃v,e=.returned v∧Sat W w' (sep (sep (fact (v=eX mo)) (l9 p app S)) A0)):=
  ah fun w0 A0 h0=>(JF (aQ S x.q) x.sh (Qo.of (dM (hS.share _).1).1) ha h0).mono (by
   rintro e w' ⟨rfl,h2⟩
   exact⟨_,rfl,by rw[aj];exact Sat.fact.2 ⟨by rw[hmo],h2⟩⟩)
 have JI:∀q:Int,Hid (∀w0 A0,Sat W w0 (sep (l9 p app S) A0)→Calls Tryz.prog 29 #[.pointer (some ⟨p,0,none⟩),.int .i64 q] w0 fun e w'=>∃v,e=.returned v∧Sat W w' (sep (sep (fact (v=.agg #[.int .i64 (aQ S q).n,.int .i64 (aQ S q).d])) (l9 p app S)) A0)):=fun q=>
  ah fun w0 A0 h0=>(mW q h0).mono (by
   rintro e w' ⟨rfl,h2⟩
   exact⟨_,rfl,by rw[aj];exact Sat.fact.2 ⟨rfl,h2⟩⟩)
 obtain⟨s1,hs1⟩:=aC (aQ S x.p)
 obtain⟨s2,hs2⟩:=aC (aQ S x.q)
 have HSP:=JI x.p
 have HSQ:=JI x.q
 rw[←hs1] at Ut HSP
 rw[←hs2] at JG HSQ
 have HB:=ah hB
 have HW1:=ah hw1
 have gQ:=ah hle
 clear hB hw1 hle hJ hk h hx hS ha hna hlo hmo hres hcase JI hs1 hs2
 go_enter Tryz.func39,Tryz.ntmps39
 go_upto_region 1 with (fail)
 rw[←HB.out,←HW1.out]
 have hd:=h1.drew
 have HH1:=ah hd
 have hS0:=HX.out w1.drew hd.ext
 clear h1 hd
 refine ji rfl (fun w'=>w'.cell? ⟨B,5,none⟩=some (.int .i64 x.p)∧w'.cell? ⟨B,6,none⟩=some (.int .i64 x.q)∧w'.cell? ⟨B,9,none⟩=some (.int .i64 x.sn)∧w'.cell? ⟨B,10,none⟩=some (.int .i64 x.sd)) [.one 0 .p,.one 1 .p,.one 2 .s,.one 4 .p,.one 5 .s,.grp true [(3,[]),(6,[7,8,9]),(10,[])],.one 11 (.e false),.one 12 .p] (by kernel_rfl) ?_
 (repeat ((first|(refine Gq (v:=?_) rfl rfl (fun w'=>?_) ?_;rotate_left;(go_simp;with_reducible rfl))|(refine Gs (v:=?_) rfl rfl hS0 (fun w' hS=>?_) ?_;rotate_left;((try dsimp only at hS);go_simp;with_reducible rfl))|(refine Gt (v:=?_) rfl rfl ?_ ?_;rotate_left;(go_simp;with_reducible rfl))|(refine pG rfl rfl ?_)|(refine pI rfl rfl hS0 ?_)|(refine pJ rfl rfl ?_));simp only[Act.put,lsA,lsB,bC]))
 refine nS (W:=W) (A:=sep (kn J) A) [⟨[(3,[]),(6,[7,8,9])],vV (l9 p app S) (l9 p app S) (l9 p app S) (.agg #[.int .i64 s1.n,.int .i64 s1.d]) (eX lo) (Zr lo)⟩,⟨[(10,[])],tailA emp jI (fun g=>blk g (.cells #[.int .i64 0,.int .i64 0] 57 (0,0))) (fun _=>[])⟩]
  (fun _ w' X hX=>HX.out w' (show Sat W w' (sep (kn J) (sep X A)) from hX.p1).ext) (by kernel_rfl) ?_ ?_ ?_
 ·intro t ht
  simp only[List.mem_cons,List.not_mem_nil,or_false] at ht
  rcases ht with rfl|rfl
  ·refine sU (di:=some 12) rfl rfl (by intro cs b h;cases h) rfl (by intro cs b h;cases h) (by kernel_rfl) (iY rfl 29 #[.pointer (some ⟨p,0,none⟩),.int .i64 x.p] (fun w'=>?_) HSP.out) (iY rfl 55 #[.agg #[.int .i64 s1.n,.int .i64 s1.d],.agg #[.int .i64 x.sn,.int .i64 x.sd]] (fun w'=>?_) Ut.out) (fun _=>rfl) (by kernel_rfl) ?_
   ·(go_simp;try rfl)
   ·(go_simp;try rfl)
   ·refine⟨⟨_,rfl,fun w'=>?_⟩,⟨_,rfl,fun w'=>?_⟩,⟨_,rfl,fun w'=>?_⟩,trivial⟩
    all_goals (unfold eX;go_simp;try rfl)
  ·refine iZ rfl (by intro cs b h;cases h) (kE rfl (fun w'=>?_)) rfl ?_
   ·(go_simp;try rfl)
   ·intro _ _ _;trivial
 ·show Sat W w1.drew (sep emp (sep (l9 p app S) (sep (kn J) A)))
  rw[bU]
  exact HH1.out.p1
 ·intro Wy h1 RU h2 w7 h7
  obtain⟨rfl,h8⟩:=sS h1 rfl (show Sat W w7 (sep (vV (l9 p app S) (l9 p app S) (l9 p app S) (.agg #[.int .i64 s1.n,.int .i64 s1.d]) (eX lo) (Zr lo) (Wy.map (·.2))) (sep (tailA emp jI (fun g=>blk g (.cells #[.int .i64 0,.int .i64 0] 57 (0,0))) (fun _=>[]) (RU.map (·.2))) (sep (kn J) A))) from h7.p1)
  obtain⟨v10,g,rfl,hg,h9⟩:=jc h2 (fun _=>rfl) (show Sat W w7 (sep (tailA emp jI (fun g=>blk g (.cells #[.int .i64 0,.int .i64 0] 57 (0,0))) (fun _=>[]) (RU.map (·.2))) (sep (l9 p app S) (sep (kn J) A))) from h8.p1)
  unfold jI at hg
  subst hg
  change jT _ _ _ _ _ _ ((((((Act.put _ (some 12) (.agg #[.int .i64 s1.n,.int .i64 s1.d])).put (some 15) (eX lo)).put (some 8) (eX lo)).put (some 16) (.agg #[.int .i64 lo.1.n,.int .i64 lo.1.d])).put (some 17) (.int .i64 lo.2)).put (some 5) (.pointer (some ⟨g,0,none⟩))) _
  simp only[Act.put,lsA,lsB,bC]
  obtain⟨⟨ln,ld⟩,le⟩:=lo
  simp only[eX]
  obtain⟨k0,k1,k2,k3⟩:=gX h9
  have h10:=fH h9 (.int .i64 ln) (.int .i64 ld)
  obtain⟨w8,hw8⟩:=aC ((w7.setCell ⟨g,0,none⟩ (.int .i64 ln)).setCell ⟨g,1,none⟩ (.int .i64 ld))
  rw[←hw8] at h10
  have JJ:=ah hw8
  have nO:=ah h10
  clear h1 h2 h7 h8 h9 hw8 h10 HH1 hS0
  (repeat ((first|(refine Gq (v:=?_) rfl rfl (fun w'=>?_) ?_;rotate_left;(go_simp;with_reducible rfl))|(refine Gs (v:=?_) rfl rfl hS0 (fun w' hS=>?_) ?_;rotate_left;((try dsimp only at hS);go_simp;with_reducible rfl))|(refine Gt (v:=?_) rfl rfl ?_ ?_;rotate_left;(go_simp;with_reducible rfl))|(refine pG rfl rfl ?_)|(refine pI rfl rfl hS0 ?_)|(refine pJ rfl rfl ?_));simp only[Act.put,lsA,lsB,bC]))
  (refine Y5 rfl rfl (fun K hK=>?_);go_simp)
  rw[←JJ.out]
  (refine hK _ _ (fun h=>by cases h) ?_;clear hK K;(try simp only[Act.put,lsA,lsB,bC]))
  (repeat ((first|(refine Gq (v:=?_) rfl rfl (fun w'=>?_) ?_;rotate_left;(go_simp;with_reducible rfl))|(refine Gs (v:=?_) rfl rfl hS0 (fun w' hS=>?_) ?_;rotate_left;((try dsimp only at hS);go_simp;with_reducible rfl))|(refine Gt (v:=?_) rfl rfl ?_ ?_;rotate_left;(go_simp;with_reducible rfl))|(refine pG rfl rfl ?_)|(refine pI rfl rfl hS0 ?_)|(refine pJ rfl rfl ?_));simp only[Act.put,lsA,lsB,bC]))
  refine vY ?_
  clear k0 k1 k2 k3 JJ
  obtain⟨j0,j1,-,-⟩:=gX nO.out
  by_cases c1:le=0
  ·subst c1
   by_cases c2:ln<0
   ·have hr:res=(S,false):=by rw[HC.out,if_pos (.inr c2)]
    have HR:=ah hr
    clear hr
    go_wp2
    go_ret
    rw[HR.out]
    exact⟨rfl,(nO.out.forget.p1.drop)⟩
   ·go_wp2
    have hd:=nO.out.drew
    obtain⟨w9,Uu⟩:=aC (w8.drew)
    rw[←Uu] at hd
    have HW9:=ah Uu
    have HH2:Hid (Sat W w9 (sep (l9 p app S) (sep (kn J) (sep (blk g (.cells #[.int .i64 ln,.int .i64 ld] 57 (0,0))) A)))):=ah (by simpa only[ay,au,aj] using hd)
    have hS0:=HX.out w9 hd.p2.ext
    clear Uu hd j0 j1 nO
    refine ji rfl (fun w'=>w'.cell? ⟨B,5,none⟩=some (.int .i64 x.p)∧w'.cell? ⟨B,6,none⟩=some (.int .i64 x.q)∧w'.cell? ⟨B,9,none⟩=some (.int .i64 x.sn)∧w'.cell? ⟨B,10,none⟩=some (.int .i64 x.sd)) [.one 0 .p,.one 1 .p,.one 2 .s,.one 4 .p,.one 5 .s,.grp true [(3,[]),(6,[7,8,9]),(10,[])],.one 11 (.e false),.one 12 .p] (by kernel_rfl) ?_
    rw[←HW9.out]
    (repeat ((first|(refine Gq (v:=?_) rfl rfl (fun w'=>?_) ?_;rotate_left;(go_simp;with_reducible rfl))|(refine Gs (v:=?_) rfl rfl hS0 (fun w' hS=>?_) ?_;rotate_left;((try dsimp only at hS);go_simp;with_reducible rfl))|(refine Gt (v:=?_) rfl rfl ?_ ?_;rotate_left;(go_simp;with_reducible rfl))|(refine pG rfl rfl ?_)|(refine pI rfl rfl hS0 ?_)|(refine pJ rfl rfl ?_));simp only[Act.put,lsA,lsB,bC]))
    refine nS (W:=W) (A:=sep (kn J) (sep (blk g (.cells #[.int .i64 ln,.int .i64 ld] 57 (0,0))) A)) [⟨[(3,[]),(6,[7,8,9])],vV (l9 p app S) (l9 p app S) (l9 p app S) (.agg #[.int .i64 s2.n,.int .i64 s2.d]) (eX mo) (Zr mo)⟩,⟨[(10,[])],tailA emp jI (fun g=>blk g (.cells #[.int .i64 0,.int .i64 0] 57 (0,0))) (fun _=>[])⟩]
     (fun _ w' X hX=>HX.out w' (show Sat W w' (sep (kn J) (sep X (sep (blk g (.cells #[.int .i64 ln,.int .i64 ld] 57 (0,0))) A))) from hX.p1).ext) (by kernel_rfl) ?_ ?_ ?_
    ·intro t ht
     simp only[List.mem_cons,List.not_mem_nil,or_false] at ht
     rcases ht with rfl|rfl
     ·refine sU (di:=some 29) rfl rfl (by intro cs b h;cases h) rfl (by intro cs b h;cases h) (by kernel_rfl) (iY rfl 29 #[.pointer (some ⟨p,0,none⟩),.int .i64 x.q] (fun w'=>?_) HSQ.out) (iY rfl 56 #[.agg #[.int .i64 s2.n,.int .i64 s2.d],.agg #[.int .i64 x.sn,.int .i64 x.sd]] (fun w'=>?_) JG.out) (fun _=>rfl) (by kernel_rfl) ?_
      ·(go_simp;try rfl)
      ·(go_simp;try rfl)
      ·refine⟨⟨_,rfl,fun w'=>?_⟩,⟨_,rfl,fun w'=>?_⟩,⟨_,rfl,fun w'=>?_⟩,trivial⟩
       all_goals (unfold eX;go_simp;try rfl)
     ·refine iZ rfl (by intro cs b h;cases h) (kE rfl (fun w'=>?_)) rfl ?_
      ·(go_simp;try rfl)
      ·intro _ _ _;trivial
    ·show Sat W w9 (sep emp (sep (l9 p app S) (sep (kn J) (sep (blk g (.cells #[.int .i64 ln,.int .i64 ld] 57 (0,0))) A))))
     rw[bU]
     exact HH2.out
    ·intro Wy h1 RU h2 w10 h7
     obtain⟨rfl,h8⟩:=sS h1 rfl (show Sat W w10 (sep (vV (l9 p app S) (l9 p app S) (l9 p app S) (.agg #[.int .i64 s2.n,.int .i64 s2.d]) (eX mo) (Zr mo) (Wy.map (·.2))) (sep (tailA emp jI (fun g=>blk g (.cells #[.int .i64 0,.int .i64 0] 57 (0,0))) (fun _=>[]) (RU.map (·.2))) (sep (kn J) (sep (blk g (.cells #[.int .i64 ln,.int .i64 ld] 57 (0,0))) A)))) from h7.p1)
     obtain⟨v10,g2,rfl,hg,h9⟩:=jc h2 (fun _=>rfl) (show Sat W w10 (sep (tailA emp jI (fun g=>blk g (.cells #[.int .i64 0,.int .i64 0] 57 (0,0))) (fun _=>[]) (RU.map (·.2))) (sep (l9 p app S) (sep (kn J) (sep (blk g (.cells #[.int .i64 ln,.int .i64 ld] 57 (0,0))) A)))) from h8.p1)
     unfold jI at hg
     subst hg
     change jT _ _ _ _ _ _ ((((((Act.put _ (some 29) (.agg #[.int .i64 s2.n,.int .i64 s2.d])).put (some 32) (eX mo)).put (some 25) (eX mo)).put (some 33) (.agg #[.int .i64 mo.1.n,.int .i64 mo.1.d])).put (some 34) (.int .i64 mo.2)).put (some 7) (.pointer (some ⟨g2,0,none⟩))) _
     simp only[Act.put,lsA,lsB,bC]
     obtain⟨⟨mn,md⟩,me⟩:=mo
     simp only[eX]
     obtain⟨k0,k1,k2,k3⟩:=gX h9
     have h10:=fH h9 (.int .i64 mn) (.int .i64 md)
     obtain⟨LG,Nc⟩:=aC ((w10.setCell ⟨g2,0,none⟩ (.int .i64 mn)).setCell ⟨g2,1,none⟩ (.int .i64 md))
     rw[←Nc] at h10
     have Uw:=ah Nc
     have vX:=ah h10
     clear h1 h2 h7 h8 h9 Nc h10 HH2 hS0 HW9
     (repeat ((first|(refine Gq (v:=?_) rfl rfl (fun w'=>?_) ?_;rotate_left;(go_simp;with_reducible rfl))|(refine Gs (v:=?_) rfl rfl hS0 (fun w' hS=>?_) ?_;rotate_left;((try dsimp only at hS);go_simp;with_reducible rfl))|(refine Gt (v:=?_) rfl rfl ?_ ?_;rotate_left;(go_simp;with_reducible rfl))|(refine pG rfl rfl ?_)|(refine pI rfl rfl hS0 ?_)|(refine pJ rfl rfl ?_));simp only[Act.put,lsA,lsB,bC]))
     (refine Y5 rfl rfl (fun K hK=>?_);go_simp)
     rw[←Uw.out]
     (refine hK _ _ (fun h=>by cases h) ?_;clear hK K;(try simp only[Act.put,lsA,lsB,bC]))
     (repeat ((first|(refine Gq (v:=?_) rfl rfl (fun w'=>?_) ?_;rotate_left;(go_simp;with_reducible rfl))|(refine Gs (v:=?_) rfl rfl hS0 (fun w' hS=>?_) ?_;rotate_left;((try dsimp only at hS);go_simp;with_reducible rfl))|(refine Gt (v:=?_) rfl rfl ?_ ?_;rotate_left;(go_simp;with_reducible rfl))|(refine pG rfl rfl ?_)|(refine pI rfl rfl hS0 ?_)|(refine pJ rfl rfl ?_));simp only[Act.put,lsA,lsB,bC]))
     refine vY ?_
     clear k0 k1 k2 k3 Uw
     by_cases c3:me=0
     ·subst c3
      have hr:res=(jd (jd S x.p ⟨ln,ld⟩) x.q ⟨mn,md⟩,true):=by rw[HC.out,if_neg (by simpa using c2),if_neg (by simp)]
      have HR:=ah hr
      clear hr
      go_wp2
      obtain⟨b,n,hT⟩:=Bq (show Sat W LG (sep (l9 p app S) (sep (blk g2 (.cells #[.int .i64 mn,.int .i64 md] 57 (0,0))) (sep (kn J) (sep (blk g (.cells #[.int .i64 ln,.int .i64 ld] 57 (0,0))) A)))) from vX.out.p1)
      have hd:=hT.drew
      obtain⟨wv,hwv⟩:=aC (LG.drew)
      rw[←hwv] at hd
      have cp:wv.cell? ⟨p,1,none⟩=some (.map (some b)):=hd.cell 1
      have hb:Sat W wv (sep (iP b (Eh S) n) (sep (blk g2 (.cells #[.int .i64 mn,.int .i64 md] 57 (0,0))) (sep (kn J) (sep (blk g (.cells #[.int .i64 ln,.int .i64 ld] 57 (0,0))) (sep (blk p (.cells #[.int .i64 app,.map (some b)] 78 (0,0))) A))))):=by simpa only[ay,au,aj] using hd
      have hcl:∀w' Y,Sat W w' (sep Y (sep (blk g2 (.cells #[.int .i64 mn,.int .i64 md] 57 (0,0))) (sep (kn J) (sep (blk g (.cells #[.int .i64 ln,.int .i64 ld] 57 (0,0))) (sep (blk p (.cells #[.int .i64 app,.map (some b)] 78 (0,0))) A)))))→w'.cell? ⟨B,6,none⟩=some (.int .i64 x.q)∧(w'.cell? ⟨g,0,none⟩=some (.int .i64 ln)∧w'.cell? ⟨g,1,none⟩=some (.int .i64 ld))∧w'.cell? ⟨g2,0,none⟩=some (.int .i64 mn)∧w'.cell? ⟨g2,1,none⟩=some (.int .i64 md):=fun w' Y hY=>by
       have e1:=hY.p2.ext
       have e2:=gX hY.p3
       have e3:=gX hY.p1
       exact⟨(HX.out w' e1).2.1,⟨e2.1,e2.2.1⟩,e3.1,e3.2.1⟩
      obtain⟨v0,st,wa,X,hrE,hS1,f1⟩:=qU (P:=Tryz.prog) (T:=76) Tryz.underlying76 Tryz.underlying3 sV hb x.p
      obtain⟨wb,n1,hrS,hS2⟩:=f1 wa _ (Ud ⟨ln,ld⟩) hS1
      rw[zX] at hS2
      obtain⟨v0',st',wc,X',aiN,hS3,f2⟩:=qU (P:=Tryz.prog) (T:=76) Tryz.underlying76 Tryz.underlying3 sV hS2 x.q
      obtain⟨wd,n2,aeC,hS4⟩:=f2 wc _ (Ud ⟨mn,md⟩) hS3
      rw[zX] at hS4
      unfold Ud at hrS aeC
      have hS0:=hcl wv _ hb
      have z1:=hcl wa _ hS1
      have z2:=hcl wb _ hS2
      have z3:=hcl wc _ hS3
      have HZ:=ah (And.intro z1 (And.intro z2 z3))
      have iR:Hid (Sat W wd (sep (l9 p app (jd (jd S x.p ⟨ln,ld⟩) x.q ⟨mn,md⟩)) A)):=ah (by
       refine Bv (b:=b) (n:=n2) ?_
       have:=((hS4.p1.forget).p2.forget).p1.drop
       simpa only[ay,au,aj] using this)
      have cB:=(HX.out wv hb.p2.ext).1
      have HWV:=ah hwv
      clear hT hd hb hcl hS1 f1 hS2 hS3 f2 hS4 z1 z2 z3 hwv vX
      refine aA rfl (fun w'=>w'.cell? ⟨B,6,none⟩=some (.int .i64 x.q)∧(w'.cell? ⟨g,0,none⟩=some (.int .i64 ln)∧w'.cell? ⟨g,1,none⟩=some (.int .i64 ld))∧w'.cell? ⟨g2,0,none⟩=some (.int .i64 mn)∧w'.cell? ⟨g2,1,none⟩=some (.int .i64 md)) [(0,.p),(1,.p),(2,.p),(3,.t),(4,.p),(5,.t),(6,.p),(7,.p),(8,.p),(9,.t),(10,.p),(11,.s),(12,.s),(13,.s),(14,.e true),(15,.p),(16,.e true),(17,.e true),(18,.p),(19,.e false)] (by kernel_rfl) ?_
      rw[←HWV.out]
      (repeat ((first|(refine eF (v:=?_) rfl rfl (fun w'=>?_) ?_;rotate_left;(go_simp;with_reducible rfl))|(refine eG (v:=?_) rfl rfl hS0 (fun w' hS=>?_) ?_;rotate_left;((try dsimp only at hS);go_simp;with_reducible rfl))|(refine eH (v:=?_) rfl rfl ?_ ?_;rotate_left;(go_simp;with_reducible rfl))|(refine bD rfl rfl ?_)|(refine bG rfl rfl hS0 ?_)|(refine bH rfl rfl ?_));simp only[Act.put,lsA,lsB,bC]))
      clear cp cB
      (refine iQ rfl rfl (fun K hK=>?_);go_simp)
      (refine hK _ _ (fun _=>HZ.out.1) ?_;clear hK K;(try simp only[Act.put,lsA,lsB,bC]))
      (repeat ((first|(refine eF (v:=?_) rfl rfl (fun w'=>?_) ?_;rotate_left;(go_simp;with_reducible rfl))|(refine eG (v:=?_) rfl rfl hS0 (fun w' hS=>?_) ?_;rotate_left;((try dsimp only at hS);go_simp;with_reducible rfl))|(refine eH (v:=?_) rfl rfl ?_ ?_;rotate_left;(go_simp;with_reducible rfl))|(refine bD rfl rfl ?_)|(refine bG rfl rfl hS0 ?_)|(refine bH rfl rfl ?_));simp only[Act.put,lsA,lsB,bC]))
      (refine iQ rfl rfl (fun K hK=>?_);go_simp)
      (refine hK _ _ (fun _=>HZ.out.2.1) ?_;clear hK K;(try simp only[Act.put,lsA,lsB,bC]))
      (refine iQ rfl rfl (fun K hK=>?_);go_simp)
      (refine hK _ _ (fun _=>HZ.out.2.2) ?_;clear hK K;(try simp only[Act.put,lsA,lsB,bC]))
      (repeat ((first|(refine eF (v:=?_) rfl rfl (fun w'=>?_) ?_;rotate_left;(go_simp;with_reducible rfl))|(refine eG (v:=?_) rfl rfl hS0 (fun w' hS=>?_) ?_;rotate_left;((try dsimp only at hS);go_simp;with_reducible rfl))|(refine eH (v:=?_) rfl rfl ?_ ?_;rotate_left;(go_simp;with_reducible rfl))|(refine bD rfl rfl ?_)|(refine bG rfl rfl hS0 ?_)|(refine bH rfl rfl ?_));simp only[Act.put,lsA,lsB,bC]))
      (refine iQ rfl rfl (fun K hK=>?_);go_simp)
      (refine hK _ _ (fun h=>by cases h) ?_;clear hK K;(try simp only[Act.put,lsA,lsB,bC]))
      refine bM ?_
      go_wp2
      go_ret
      rw[HR.out]
      exact⟨rfl,iR.out⟩
     ·have hz:(me !=0)=true:=by simp[c3]
      have hr:res=(S,false):=by rw[HC.out,if_neg (by simpa using c2),if_pos c3]
      have HR:=ah hr
      clear hr
      go_wp2
      go_ret
      rw[HR.out]
      exact⟨rfl,(vX.out.forget.p1.drop.p1.forget)⟩
  ·have hz:(le !=0)=true:=by simp[c1]
   have hr:res=(S,false):=by rw[HC.out,if_pos (.inl c1)]
   have HR:=ah hr
   clear hr
   go_wp2
   go_ret
   rw[HR.out]
   exact⟨rfl,(nO.out.forget.p1.drop)⟩
end Go.Proofs.YtgicfogmdfdjmaaGreatDoor

/- Part of a proof. -/
import Derived.Test.YthfmaclnccdcbaaGreatDoorZFO16
namespace Go.Proofs.YthfmaclnccdcbaaGreatDoor
open Go.RowKit PA
def uM:List Int:=[0,7,9,20,36,52,23,100,215,13,47,12,123456,5000]
theorem PI (r:Nat) (hr:r<14):∃x:Int,uM[r]?=some x∧SY x:=by
 have h:r<uM.length:=hr;refine⟨uM[r],iM h,?_⟩;have hall:∀z∈uM,SY z:=by
  intro z hz;simp only[uM,List.mem_cons,List.not_mem_nil,or_false] at hz;unfold SY;omega
 exact hall _ (List.getElem_mem h)
set_option maxRecDepth 100000 in
set_option maxHeartbeats 4000000 in
theorem xH {W w:World} {A:aB} {I:Mem} {B:Nat} {day:Int} {fv:Value} (va:Value) (l:List Int) (i:Nat) (hi:i<1000000) (hv:OM I va l) (h:Sat W w (sep (bM B va i day fv) (sep (kn I) A))):
 Calls Tryz.prog 110 #[.pointer (some ⟨B,0,none⟩)] w fun e w'=>∃(f:Fm) (fo fn:Int) (fi fk:Sv) (J:Mem),e=.returned (.agg #[.int .i64 fo,.int .i64 fn,.slice fi.a fi.n fi.c,.slice fk.a fk.n fk.c])∧dA f∧Mem.le I J∧rF.rel J [.int .i64 fo,.int .i64 fn,.slice fi.a fi.n fi.c,.slice fk.a fk.n fk.c] f∧Sat W w' (sep (bM B va ((i+1:Nat):Int) day fv) (sep (kn J) A)):=by
 obtain⟨R,hR⟩:=aC (w.heap.size);obtain⟨w1,hw1⟩:=aC (w.alloc (.cells #[.int .i64 0,.int .i64 0,.slice none 0 0,.slice none 0 0] 34));have h1:=h.alloc (.cells #[.int .i64 0,.int .i64 0,.slice none 0 0,.slice none 0 0] 34);rw[←hR,←hw1] at h1;obtain⟨L,hL⟩:=aC (w1.heap.size);obtain⟨w2,hw2⟩:=aC (w1.alloc (.cells ab1 3));have h2:=h1.alloc (.cells ab1 3);rw[←hL,←hw2] at h2;have h3:Sat W w2 (sep (bM B va i day fv) (sep (kn I) (sep (blk L (.cells (uM.map PA.iv).toArray 3 (0,0))) (sep (blk R (.cells #[.int .i64 0,.int .i64 0,.slice none 0 0,.slice none 0 0] 34 (0,0))) A)))):=by
  rw[show (uM.map PA.iv).toArray=ab1 from rfl];have h3:=h2;simpa only[aA,au,aj] using h3
 have HN:=ah (aS va l i 14 (by omega) (by omega) hi hv h3);have hb:=bF l i 14 (by omega);obtain⟨r0,hr0⟩:=aC (dH l i 14);rw[←hr0] at hb HN;obtain⟨r,rfl⟩:∃r:Nat,r0=(r:Int):=⟨r0.toNat,by omega⟩
 have hr:r<14:=by omega
 obtain⟨x,hx,oO⟩:=PI r hr;have hrz:(r:Int)<14:=by omega
 have HX:=ah (aH hx oO);have HR:=ah (aH hR (aH hw1 (aH hL hw2)));clear h h1 h2 h3 hR hw1 hL hw2 hr0 hb hv hi hx oO;go_enter Tryz.func110,Tryz.ntmps110;go_upto_region 1 with fail;rw[←HR.out.1,←HR.out.2.1];go_wp2_with fail;rw[←HR.out.2.2.1,←HR.out.2.2.2];refine HN.out.mono ?_;rintro e w3 ⟨rfl,h4⟩;have cl:w3.cell? ⟨L,r,none⟩=some (.int .i64 x):=by
  rw[h4.p2.cell r];rw[List.getElem?_toArray,List.getElem?_map,HX.out.1];rfl
 have HF:=ah (L9 x HX.out.2 h4.p1);clear h4 HN HX HR;go_wp2_with fail;refine HF.out.mono ?_;rintro e w4 ⟨f,c0,c1,c2,c3,J,rfl,hg,hle,hrel,h5⟩;obtain⟨fo,fn,fi,fk,rfl,rfl,rfl,rfl⟩:∃(fo fn:Int) (fi fk:Sv),c0=.int .i64 fo∧c1=.int .i64 fn∧c2=.slice fi.a fi.n fi.c∧c3=.slice fk.a fk.n fk.c:=by
  obtain⟨o,n,i,k⟩:=f;obtain⟨a,c',b,d,e,-,-⟩:=dW.1 hrel;simp only[List.cons.injEq,and_true] at e;exact⟨o,n,⟨a,i.length,c'⟩,⟨b,k.length,d⟩,e⟩
 have h6:Sat W w4 (sep (blk R (.cells #[.int .i64 0,.int .i64 0,.slice none 0 0,.slice none 0 0] 34 (0,0))) (sep (bM B va ((i+1:Nat):Int) day fv) (sep (kn J) A))):=by
  have h5':Sat W w4 (sep (blk L (.cells (uM.map PA.iv).toArray 3 (0,0))) (sep (blk R (.cells #[.int .i64 0,.int .i64 0,.slice none 0 0,.slice none 0 0] 34 (0,0))) (sep (bM B va ((i+1:Nat):Int) day fv) (sep (kn J) A)))):=by
   simpa only[aA,au,aj] using h5
  exact h5'.forget
 have f0:=h6.aI 0;have b0:=h6.cell 0;have f1:=h6.aI 1;have b1:=h6.cell 1;have f2:=h6.aI 2;have b2:=h6.cell 2;have f3:=h6.aI 3;have b3:=h6.cell 3;simp only[Ec,Ed,Ee] at b0 b1 b2 b3;have h7:=(((h6.setCell 0 (.int .i64 fo)).setCell 1 (.int .i64 fn)).setCell 2 (.slice fi.a fi.n fi.c)).setCell 3 (.slice fk.a fk.n fk.c);have H7:=ah h7;have HG:=ah (aH hg (aH hle hrel));clear h5 h6 h7 hg hle hrel HF cl;go_wp2;have r0:=H7.out.cell 0;have r1:=H7.out.cell 1;have r2:=H7.out.cell 2;have r3:=H7.out.cell 3;exact bodyPost_ret (v:=.agg #[.int .i64 fo,.int .i64 fn,.slice fi.a fi.n fi.c,.slice fk.a fk.n fk.c]) (by simp[results,Tryz.results110,go_sem,r0,r1,r2,r3]) rfl ⟨f,_,_,_,_,J,rfl,HG.out.1,HG.out.2.1,HG.out.2.2,H7.out.forget⟩
end Go.Proofs.YthfmaclnccdcbaaGreatDoor

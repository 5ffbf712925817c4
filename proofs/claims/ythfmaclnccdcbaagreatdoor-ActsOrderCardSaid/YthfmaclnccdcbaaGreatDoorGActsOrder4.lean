/- Part of a proof. -/
import Derived.Test.YthfmaclnccdcbaaGreatDoorGActsOrder3
namespace Go.Proofs.YthfmaclnccdcbaaGreatDoor
open Go.RowKit PA
def qM (a b:Int):Int:=if a<b then -1 else if b<a then 1 else 0
theorem oI (a b:Int) (w:World):Calls Tryz.prog 69 #[.int .i64 a,.int .i64 b] w fun e w'=>e=.returned (.int .i64 (qM a b))∧w=w':=by
 obtain⟨r,hr⟩:=aB (qM a b);rw[←hr];unfold qM at hr;have HR:=ah hr;clear hr
 by_cases c1:a<b
 ·go_enter Tryz.func69,Tryz.ntmps69
  go_wp2
  go_ret
  exact⟨by rw[HR.out,if_pos (by omega)];rfl,rfl⟩
 ·by_cases c2:b<a
  ·go_enter Tryz.func69,Tryz.ntmps69
   go_wp2
   go_ret
   exact⟨by rw[HR.out,if_neg (by omega),if_pos (by omega)];rfl,rfl⟩
  ·go_enter Tryz.func69,Tryz.ntmps69
   go_wp2
   go_ret
   exact⟨by rw[HR.out,if_neg (by omega),if_neg (by omega)];rfl,rfl⟩
theorem BQ {W w:World} {A:aC} (a b:Int) (C:Nat) (h:Sat W w (sep (blk C (.cells #[.int .i64 a,.int .i64 b] 3 (0,0))) A)):
 Calls Tryz.prog 68 #[.slice (some ⟨C,0,none⟩) 2 2] w fun e w'=>e=.returned (.int .i64 (if a≠0 then a else b))∧Sat W w' A:=by
 obtain⟨r,hr⟩:=aB (if a≠0 then a else b);rw[←hr];have HR:=ah hr;clear hr;obtain⟨c0,c1,-,-⟩:=kG h;have h':=h.forget;clear h
 go_enter Tryz.func68,Tryz.ntmps68
 go_wp2
 go_loopw [8] (fun kv wr=>∃k:Nat,kv=.int .i64 k∧k≤2∧(1≤k→a=0)∧(2≤k→b=0)∧wr=w) (fun kv _=>2-(intOf kv).toNat)
 case atStart=>exact⟨0,rfl,by omega,by omega,by omega,rfl⟩
 case round=>
  obtain⟨k,rfl,hk,q1,q2,rfl⟩:=hrel;have Q1:=ah q1;have Q2:=ah q2;clear q1 q2;obtain rfl|rfl|rfl:k=0∨k=1∨k=2:=by omega
  ·by_cases hz:a=0
   ·subst hz
    go_wp2
    go_roundw
    case rel=>exact⟨1,rfl,by omega,fun _=>(by first|rfl|trivial),by omega,by first|rfl|trivial⟩
    case measure=>simp[intOf]
   ·have hz2:(a !=0)=true:=by simp[hz]
    go_wp2
    go_ret
    exact⟨by rw[HR.out,if_pos hz];rfl,h'⟩
  ·by_cases hz:b=0
   ·subst hz
    go_wp2
    go_roundw
    case rel=>exact⟨2,rfl,by omega,fun _=>Q1.out (by omega),fun _=>(by first|rfl|trivial),by first|rfl|trivial⟩
    case measure=>simp[intOf]
   ·have hz2:(b !=0)=true:=by simp[hz]
    go_wp2
    go_ret
    exact⟨by rw[HR.out,if_neg (by rw[Q1.out (by omega)];simp)];rfl,h'⟩
  ·go_wp2
   go_ret
   exact⟨by rw[HR.out,if_neg (by rw[Q1.out (by omega)];simp),Q2.out (by omega)];rfl,h'⟩
theorem Wu (x y:Ac):(if qM x.d y.d≠0 then qM x.d y.d else qM x.n y.n)=cmpK x y:=by
 unfold qM cmpK
 repeat' split
 all_goals first|rfl|omega|contradiction|skip
theorem Ws {x y:Ac} (h:Fp x y):cmpK x y≠0:=by
 unfold cmpK;unfold Fp at h
 repeat' split
 all_goals omega
set_option maxRecDepth 100000 in
set_option maxHeartbeats 4000000 in
theorem vK {W w:World} {A:aC} (x y:Ac) (hne:Fp x y) (h:Sat W w A):
 Calls Tryz.prog 21 #[.agg x.cells.toArray,.agg y.cells.toArray] w fun e w'=>e=.returned (.int .i64 (cmpK x y))∧Sat W w' A:=by
 obtain⟨r,hr⟩:=aB (cmpK x y);have hnz:r≠0:=by rw[hr];exact Ws hne
 rw[←hr];obtain⟨I,hk⟩:=h.know;obtain⟨J,hle,hJ,h1⟩:=(hk.alloc (.cells x.cells.toArray 36)).settle.learn;obtain⟨J2,hle2,hJ2,h2⟩:=(h1.alloc (.cells y.cells.toArray 36)).settle.learn;rw[World.size_alloc] at hJ2;obtain⟨B,hB⟩:=aB (w.heap.size);obtain⟨w1,hw1⟩:=aB ((w.alloc (.cells x.cells.toArray 36)).alloc (.cells y.cells.toArray 36));rw[←hB] at hJ hJ2;rw[←hw1] at h2;have HX:Hid (∀w',Ext J2 w'→(w'.cell? ⟨B,1,none⟩=some (.int .i64 x.d)∧w'.cell? ⟨B+1,1,none⟩=some (.int .i64 y.d))∧w'.cell? ⟨B,2,none⟩=some (.int .i64 x.n)∧w'.cell? ⟨B+1,2,none⟩=some (.int .i64 y.n)):=
  ah fun w' he=>⟨⟨xB (hle2 _ _ hJ) he 1,xB hJ2 he 1⟩,xB (hle2 _ _ hJ) he 2,xB hJ2 he 2⟩
 have HR:Hid ((if qM x.d y.d≠0 then qM x.d y.d else qM x.n y.n)=r):=ah (by rw[Wu,hr]);obtain⟨a1,ha1⟩:=aB (qM x.d y.d);obtain⟨a2,ha2⟩:=aB (qM x.n y.n);have hc1:=oI x.d y.d;have hc2:=oI x.n y.n;rw[←ha1] at hc1;rw[←ha2] at hc2;rw[←ha1,←ha2] at HR;have GV:=ah hc1;have HC2:=ah hc2;have HNZ:=ah hnz;have HB:=ah hB;have HW1:=ah hw1;have hd:=h2.drew;obtain⟨wd,hwd⟩:=aB (w1.drew);rw[←hwd] at hd;have hcl:=HX.out wd hd.ext;obtain⟨⟨k0,k1⟩,hS0⟩:=hcl;have oD:=ah hwd;have HD:=ah hd;clear hB hw1 hle hle2 hJ hJ2 hk h h1 h2 hr hne hnz ha1 ha2 hc1 hc2 hwd hd
 go_enter Tryz.func21,Tryz.ntmps21
 go_upto_region 1 with (fail)
 simp only[←HB.out,←HW1.out];refine aG rfl (fun w'=>w'.cell? ⟨B,2,none⟩=some (.int .i64 x.n)∧w'.cell? ⟨B+1,2,none⟩=some (.int .i64 y.n)) [(0,.p),(1,.t),(2,.p),(3,.t),(5,.p),(6,.s),(7,.p),(8,.s),(4,.e true),(9,.e false),(10,.e false),(11,.e false),(12,.p)] (by kernel_rfl) ?_;rw[←oD.out];refine bF ?_
 (refine jH rfl rfl (fun K hK=>?_);go_simp)
 refine (GV.out wd).mono ?_;rintro e w' ⟨rfl,rfl⟩
 (refine hK _ _ (fun _=>hS0) ?_;clear hK K;(try simp only[Act.put,lsA,lsB,kJ]))
 clear k0 k1 hS0
 (refine jH rfl rfl (fun K hK=>?_);go_simp)
 refine (HC2.out wd).mono ?_;rintro e w' ⟨rfl,rfl⟩;refine dQ ?_;clear hK K
 (refine jH rfl rfl (fun K hK=>?_);go_simp)
 refine dQ ?_;clear hK K
 (refine jH rfl rfl (fun K hK=>?_);go_simp)
 refine (BQ a1 a2 _ (HD.out.alloc (.cells #[.int .i64 a1,.int .i64 a2] 3))).mono ?_;rintro e w3 ⟨rfl,h3⟩;rw[HR.out];refine dQ ?_;clear hK K;refine bF ?_;refine dN ?_;have hz:(r !=0)=true:=by simp[HNZ.out]
 go_wp2
 go_ret
 exact⟨rfl,h3.drop⟩
end Go.Proofs.YthfmaclnccdcbaaGreatDoor
namespace Go.Proofs.YthfmaclnccdcbaaGreatDoor
open Go.RowKit PA
def kA:Nat:=19
theorem aY (w:World):(Go.sizeOf 36).run Tryz.prog w=.ok kA w:=by kernel_rfl
instance:Inhabited Ac:=⟨Ac.zero⟩
def Ad (g N:Nat) (f:Nat→Ac) (tl:List Value):aC:=blk g (.cells (dA ((List.range N).map f)++tl).toArray 36 (0,0))
def Ru (f:Nat→Ac) (i:Nat) (x:Ac):Nat→Ac:=fun k=>if k=i then x else f k
section
variable {W w:World} {A:aC} {g N:Nat} {f:Nat→Ac} {tl:List Value}
theorem VT (h:Sat W w (sep (Ad g N f tl) A)) (i:Nat) (hi:i<N):Sem.run Tryz.prog (loadCellsFrom ⟨g,i*19,none⟩ 0 kA #[]) w=.ok (f i).cells.toArray w:=by
 have hl:(f i).cells.length=kA:=rfl;have:=run_loadCells_list (P:=Tryz.prog) w ⟨g,i*19,none⟩ (f i).cells (fun j v hj=>by
  have hjl:j<19:=(List.getElem?_eq_some_iff.1 hj).1;have e:(⟨g,i*19,none⟩:Addr).add j=⟨g,i*19+j,none⟩:=by unfold Addr.add;split<;>simp_all
  rw[e,Sat.cell h];rw[List.getElem?_toArray];show (dA ((List.range N).map f)++tl)[i*19+j]?=some v;rw[List.getElem?_append_left (by rw[jY];simp;omega),Bl _ i (by simpa using hi) j hjl];simpa using hj)
 rw[hl] at this;exact this
theorem VR (xs:List Ac) (i:Nat) (hi:i<xs.length) (x:Ac):dA (xs.set i x)=(dA xs).take (i*19)++x.cells++(dA xs).drop (i*19+19):=by
 have e1:dA (xs.take i)=(dA xs).take (i*19):=by
  have h:=iW (xs.take i) (xs.drop i);rw[List.take_append_drop] at h;have hl:(dA (xs.take i)).length=i*19:=by rw[jY,List.length_take];omega
  rw[h,←hl,List.take_left]
 have e2:dA (xs.drop (i+1))=(dA xs).drop (i*19+19):=by
  have h:=iW (xs.take (i+1)) (xs.drop (i+1));rw[List.take_append_drop] at h;have hl:(dA (xs.take (i+1))).length=i*19+19:=by rw[jY,List.length_take];omega
  rw[h,←hl,List.drop_left]
 rw[List.set_eq_take_append_cons_drop,if_pos hi,iW,e1,←e2];show _++(x.cells++dA (xs.drop (i+1)))=_;rw[List.append_assoc]
theorem Rn (f:Nat→Ac) (N i:Nat) (x:Ac):(List.range N).map (Ru f i x)=((List.range N).map f).set i x:=by
 apply List.ext_getElem
 ·simp
 ·intro k h1 h2
  simp only[List.getElem_map,List.getElem_range,List.getElem_set,Ru]
  by_cases e:k=i
  ·subst e;simp
  ·simp[e,Ne.symm e]
theorem VU (h:Sat W w (sep (Ad g N f tl) A)) (i:Nat) (hi:i<N) (x:Ac):
 ∃w',Sem.run Tryz.prog (storeCells ⟨g,i*19,none⟩ x.cells 0) w=.ok () w'∧Sat W w' (sep (Ad g N (Ru f i x) tl) A):=by
 have hl:(dA ((List.range N).map f)).length=N*19:=by rw[jY];simp
 have hst:=run_storeCells_at Tryz.prog g (i*19) 36 x.cells 0 (dA ((List.range N).map f)++tl).toArray w h.aO (by show i*19+0+19≤_;simp[hl];omega) (x.one);refine⟨_,hst,?_⟩;have h2:=h.setRow (((dA ((List.range N).map f)++tl).toArray.toList.take (i*19+0))++x.cells++(dA ((List.range N).map f)++tl).toArray.toList.drop (i*19+0+x.cells.length)).toArray;unfold Ad;rw[Rn,VR _ i (by simpa using hi)];have e:(dA ((List.range N).map f)++tl).toArray.toList.take (i*19+0)++x.cells++(dA ((List.range N).map f)++tl).toArray.toList.drop (i*19+0+x.cells.length)=(dA ((List.range N).map f)).take (i*19)++x.cells++(dA ((List.range N).map f)).drop (i*19+19)++tl:=by
  show (dA ((List.range N).map f)++tl).take (i*19)++x.cells++(dA ((List.range N).map f)++tl).drop (i*19+19)=_;rw[List.take_append_of_le_length (by omega),List.drop_append_of_le_length (by omega),List.append_assoc,List.append_assoc,List.append_assoc]
 rw[e] at h2 ⊢;exact h2
end
end Go.Proofs.YthfmaclnccdcbaaGreatDoor
namespace Go.Proofs.YthfmaclnccdcbaaGreatDoor
open Go.RowKit PA
attribute [local go_sem ↓] aY
end Go.Proofs.YthfmaclnccdcbaaGreatDoor
namespace Go.Proofs.YthfmaclnccdcbaaGreatDoor
open Go.RowKit PA
attribute [local go_sem ↓] aY
end Go.Proofs.YthfmaclnccdcbaaGreatDoor
namespace Go.Proofs.YthfmaclnccdcbaaGreatDoor
open Go.RowKit PA
attribute [local go_sem ↓] aY
end Go.Proofs.YthfmaclnccdcbaaGreatDoor
namespace Go.Proofs.YthfmaclnccdcbaaGreatDoor
open Go.RowKit PA
attribute [local go_sem ↓] aY
end Go.Proofs.YthfmaclnccdcbaaGreatDoor

/- Part of a proof. -/
import Derived.Test.YthfmaclnccdcbaaGreatDoorGActsValid3
namespace Go.Proofs.YthfmaclnccdcbaaGreatDoor
open Go.RowKit PA
def pY (a b:Int):Int:=if a<b then -1 else if b<a then 1 else 0
theorem ng (a b:Int) (w:World):Calls Tryz.prog 69 #[.int .i64 a,.int .i64 b] w fun e w'=>e=.returned (.int .i64 (pY a b))∧w=w':=by
 obtain⟨r,hr⟩:=aC (pY a b)
 rw[←hr]
 unfold pY at hr
 have HR:=ah hr
 clear hr
 by_cases c1:a<b
 ·go_enter Tryz.func69,Tryz.ntmps69
  go_wp2
  go_ret
  exact⟨by rw[HR.out,if_pos (by omega)];rfl,rfl⟩
 ·by_cases c2:b<a
  ·go_enter Tryz.func69,Tryz.ntmps69
   go_wp2
   go_ret
   exact⟨by rw[HR.out,if_neg (by omega),if_pos (by omega)];rfl,rfl⟩
  ·go_enter Tryz.func69,Tryz.ntmps69
   go_wp2
   go_ret
   exact⟨by rw[HR.out,if_neg (by omega),if_neg (by omega)];rfl,rfl⟩
theorem AZ {W w:World} {A:aB} (a b:Int) (C:Nat) (h:Sat W w (sep (blk C (.cells #[.int .i64 a,.int .i64 b] 3 (0,0))) A)):
 Calls Tryz.prog 68 #[.slice (some ⟨C,0,none⟩) 2 2] w fun e w'=>e=.returned (.int .i64 (if a≠0 then a else b))∧Sat W w' A:=by
 obtain⟨r,hr⟩:=aC (if a≠0 then a else b)
 rw[←hr]
 have HR:=ah hr
 clear hr
 obtain⟨c0,c1,-,-⟩:=jL h
 have h':=h.forget
 clear h
 go_enter Tryz.func68,Tryz.ntmps68
 go_wp2
 go_loopw [8] (fun kv wr=>∃k:Nat,kv=.int .i64 k∧k≤2∧(1≤k→a=0)∧(2≤k→b=0)∧wr=w) (fun kv _=>2-(intOf kv).toNat)
 case atStart=>exact⟨0,rfl,by omega,by omega,by omega,rfl⟩
 case round=>
  obtain⟨k,rfl,hk,q1,q2,rfl⟩:=hrel
  have Q1:=ah q1
  have Q2:=ah q2
  clear q1 q2
  obtain rfl|rfl|rfl:k=0∨k=1∨k=2:=by omega
  ·by_cases hz:a=0
   ·subst hz
    go_wp2
    go_roundw
    case rel=>exact⟨1,rfl,by omega,fun _=>(by first|rfl|trivial),by omega,by first|rfl|trivial⟩
    case measure=>simp[intOf]
   ·have hz2:(a !=0)=true:=by simp[hz]
    go_wp2
    go_ret
    exact⟨by rw[HR.out,if_pos hz];rfl,h'⟩
  ·by_cases hz:b=0
   ·subst hz
    go_wp2
    go_roundw
    case rel=>exact⟨2,rfl,by omega,fun _=>Q1.out (by omega),fun _=>(by first|rfl|trivial),by first|rfl|trivial⟩
    case measure=>simp[intOf]
   ·have hz2:(b !=0)=true:=by simp[hz]
    go_wp2
    go_ret
    exact⟨by rw[HR.out,if_neg (by rw[Q1.out (by omega)];simp)];rfl,h'⟩
  ·go_wp2
   go_ret
   exact⟨by rw[HR.out,if_neg (by rw[Q1.out (by omega)];simp),Q2.out (by omega)];rfl,h'⟩
theorem Uw (x y:Ac):(if pY x.d y.d≠0 then pY x.d y.d else pY x.n y.n)=cmpK x y:=by
 unfold pY cmpK
 repeat' split
 all_goals first|rfl|omega|contradiction|skip
theorem Ux {x y:Ac} (h:DK x y):cmpK x y≠0:=by
 unfold cmpK
 unfold DK at h
 repeat' split
 all_goals omega
set_option maxRecDepth 100000 in
set_option maxHeartbeats 4000000 in
theorem tK {W w:World} {A:aB} (x y:Ac) (hne:DK x y) (h:Sat W w A):
 Calls Tryz.prog 21 #[.agg x.cells.toArray,.agg y.cells.toArray] w fun e w'=>e=.returned (.int .i64 (cmpK x y))∧Sat W w' A:=by
 obtain⟨r,hr⟩:=aC (cmpK x y)
 have hnz:r≠0:=by rw[hr];exact Ux hne
 rw[←hr]
 obtain⟨I,hk⟩:=h.know
 obtain⟨J,hle,hJ,h1⟩:=(hk.alloc (.cells x.cells.toArray 36)).settle.learn
 obtain⟨J2,hle2,hJ2,h2⟩:=(h1.alloc (.cells y.cells.toArray 36)).settle.learn
 rw[World.size_alloc] at hJ2
 obtain⟨B,hB⟩:=aC (w.heap.size)
 obtain⟨w1,hw1⟩:=aC ((w.alloc (.cells x.cells.toArray 36)).alloc (.cells y.cells.toArray 36))
 rw[←hB] at hJ hJ2
 rw[←hw1] at h2
 have HX:Hid (∀w',Ext J2 w'→(w'.cell? ⟨B,1,none⟩=some (.int .i64 x.d)∧w'.cell? ⟨B+1,1,none⟩=some (.int .i64 y.d))∧w'.cell? ⟨B,2,none⟩=some (.int .i64 x.n)∧w'.cell? ⟨B+1,2,none⟩=some (.int .i64 y.n)):=
  ah fun w' he=>⟨⟨wI (hle2 _ _ hJ) he 1,wI hJ2 he 1⟩,wI (hle2 _ _ hJ) he 2,wI hJ2 he 2⟩
 have HR:Hid ((if pY x.d y.d≠0 then pY x.d y.d else pY x.n y.n)=r):=ah (by rw[Uw,hr])
 obtain⟨a1,ha1⟩:=aC (pY x.d y.d)
 obtain⟨a2,ha2⟩:=aC (pY x.n y.n)
 have hc1:=ng x.d y.d
 have hc2:=ng x.n y.n
 rw[←ha1] at hc1
 rw[←ha2] at hc2
 rw[←ha1,←ha2] at HR
 have Z4:=ah hc1
 have HC2:=ah hc2
 have HNZ:=ah hnz
 have HB:=ah hB
 have HW1:=ah hw1
 have hd:=h2.drew
 obtain⟨wd,hwd⟩:=aC (w1.drew)
 rw[←hwd] at hd
 have hcl:=HX.out wd hd.ext
 obtain⟨⟨k0,k1⟩,hS0⟩:=hcl
 have nJ:=ah hwd
 have HD:=ah hd
 clear hB hw1 hle hle2 hJ hJ2 hk h h1 h2 hr hne hnz ha1 ha2 hc1 hc2 hwd hd
 go_enter Tryz.func21,Tryz.ntmps21
 go_upto_region 1 with (fail)
 simp only[←HB.out,←HW1.out]
 refine aG rfl (fun w'=>w'.cell? ⟨B,2,none⟩=some (.int .i64 x.n)∧w'.cell? ⟨B+1,2,none⟩=some (.int .i64 y.n)) [(0,.p),(1,.t),(2,.p),(3,.t),(5,.p),(6,.s),(7,.p),(8,.s),(4,.e true),(9,.e false),(10,.e false),(11,.e false),(12,.p)] (by kernel_rfl) ?_
 rw[←nJ.out]
 (repeat ((first|(refine iK (v:=?_) rfl rfl (fun w'=>?_) ?_;rotate_left;(go_simp;with_reducible rfl))|(refine iL (v:=?_) rfl rfl hS0 (fun w' hS=>?_) ?_;rotate_left;((try dsimp only at hS);go_simp;with_reducible rfl))|(refine iM (v:=?_) rfl rfl ?_ ?_;rotate_left;(go_simp;with_reducible rfl))|(refine dF rfl rfl ?_)|(refine dG rfl rfl hS0 ?_)|(refine dH rfl rfl ?_));simp only[Act.put,lsA,lsB,bV]))
 (refine jK rfl rfl (fun K hK=>?_);go_simp)
 refine (Z4.out wd).mono ?_
 rintro e w' ⟨rfl,rfl⟩
 (refine hK _ _ (fun _=>hS0) ?_;clear hK K;(try simp only[Act.put,lsA,lsB,bV]))
 clear k0 k1 hS0
 (refine jK rfl rfl (fun K hK=>?_);go_simp)
 refine (HC2.out wd).mono ?_
 rintro e w' ⟨rfl,rfl⟩
 (refine hK _ _ (fun h=>by cases h) ?_;clear hK K;(try simp only[Act.put,lsA,lsB,bV]))
 (refine jK rfl rfl (fun K hK=>?_);go_simp)
 (refine hK _ _ (fun h=>by cases h) ?_;clear hK K;(try simp only[Act.put,lsA,lsB,bV]))
 (refine jK rfl rfl (fun K hK=>?_);go_simp)
 refine (AZ a1 a2 _ (HD.out.alloc (.cells #[.int .i64 a1,.int .i64 a2] 3))).mono ?_
 rintro e w3 ⟨rfl,h3⟩
 rw[HR.out]
 (refine hK _ _ (fun h=>by cases h) ?_;clear hK K;(try simp only[Act.put,lsA,lsB,bV]))
 (repeat ((first|(refine iK (v:=?_) rfl rfl (fun w'=>?_) ?_;rotate_left;(go_simp;with_reducible rfl))|(refine iL (v:=?_) rfl rfl hS0 (fun w' hS=>?_) ?_;rotate_left;((try dsimp only at hS);go_simp;with_reducible rfl))|(refine iM (v:=?_) rfl rfl ?_ ?_;rotate_left;(go_simp;with_reducible rfl))|(refine dF rfl rfl ?_)|(refine dG rfl rfl hS0 ?_)|(refine dH rfl rfl ?_));simp only[Act.put,lsA,lsB,bV]))
 refine eF ?_
 have hz:(r !=0)=true:=by simp[HNZ.out]
 go_wp2
 go_ret
 exact⟨rfl,h3.drop⟩
end Go.Proofs.YthfmaclnccdcbaaGreatDoor
namespace Go.Proofs.YthfmaclnccdcbaaGreatDoor
open Go.RowKit PA
def kA:Nat:=19
theorem bG (w:World):(Go.sizeOf 36).run Tryz.prog w=.ok kA w:=by kernel_rfl
instance:Inhabited Ac:=⟨Ac.zero⟩
section
variable {W w:World} {A:aB} {g N:Nat} {f:Nat→Ac} {tl:List Value}
end
end Go.Proofs.YthfmaclnccdcbaaGreatDoor
namespace Go.Proofs.YthfmaclnccdcbaaGreatDoor
open Go.RowKit PA
attribute [local go_sem ↓] bG
end Go.Proofs.YthfmaclnccdcbaaGreatDoor
namespace Go.Proofs.YthfmaclnccdcbaaGreatDoor
open Go.RowKit PA
attribute [local go_sem ↓] bG
end Go.Proofs.YthfmaclnccdcbaaGreatDoor
namespace Go.Proofs.YthfmaclnccdcbaaGreatDoor
open Go.RowKit PA
attribute [local go_sem ↓] bG
end Go.Proofs.YthfmaclnccdcbaaGreatDoor
namespace Go.Proofs.YthfmaclnccdcbaaGreatDoor
open Go.RowKit PA
attribute [local go_sem ↓] bG
end Go.Proofs.YthfmaclnccdcbaaGreatDoor

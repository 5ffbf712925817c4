/- Part of a proof. -/
import Derived.Test.YthfmaclnccdcbaaGreatDoorGActsOrder43
import Derived.LaidMore
import Derived.Stop.Joined
namespace PA
open Go Go.RowKit
def zA:Ac:=⟨10,40000,0,7,0,0,0,0,0,0,0,ak,ak,ak,ak,0,0,ak,ak⟩
def zB:Ac:=⟨10,40000,0,7,0,3,0,0,0,0,0,ak,ak,ak,ak,0,0,ak,ak⟩
def zC:Ac:=⟨10,39999,0,7,0,0,0,0,0,0,0,ak,ak,ak,ak,0,0,ak,ak⟩
def paA:Pa:=⟨10,40000,0,7,0,0,0,0,0,0,0,[],[],[],[],Fm.zero⟩
def paB:Pa:=⟨10,40000,0,7,0,3,0,0,0,0,0,[],[],[],[],Fm.zero⟩
theorem YH (I:Mem):kX I zA paA:=PU I 10 40000 0 7 0 0 0 0 0 0 0
theorem is_zB (I:Mem):kX I zB paB:=PU I 10 40000 0 7 0 3 0 0 0 0 0
theorem YQ:wo 0 paA:=PV (by unfold iK;omega)
theorem acf:wo 0 paB:=PV (by unfold iK;omega)
end PA
namespace Go.Proofs.YthfmaclnccdcbaaGreatDoor
open Go.RowKit PA
theorem RG:aZ paA=true:=by kernel_rfl
theorem RH:aZ paB=false:=by kernel_rfl
theorem Ew {W w:World} {A:aC} (hW:jv W) (z:Ac) (x:Pa) (hi:∀I,kX I z x) (hs:wo 0 x) (h:Sat W w A):Calls Tryz.prog 17 #[.agg z.cells.toArray] w fun e w'=>e=.returned (.int .i64 (if aZ x=true then 0 else 1))∧Sat W w' A:=by
 obtain⟨I,hI⟩:=h.know;refine (xR hW z x (hi I) hs.szM hI).mono ?_;rintro e w' ⟨J,rfl,-,h2⟩;exact⟨rfl,h2.drop⟩
theorem Ho {W w:World} {A:aC} (hW:jv W) (z:Ac) (x:Pa) (hi:∀I,kX I z x) (hs:wo 0 x) (h:Sat W w A):Calls Tryz.prog 21 #[.agg z.cells.toArray,.agg z.cells.toArray] w fun e w'=>e=.returned (.int .i64 0)∧Sat W w' A:=by
 obtain⟨I,hI⟩:=h.know;refine (tZ hW z z x x (hi I) hs.szM (hs.enc (by omega)) (hi I) hs.szM (hs.enc (by omega)) hI).mono ?_;rintro e w' ⟨J,rfl,-,h2⟩;exact⟨by rw[QE],h2.drop⟩
theorem Tv (w:World):(Instr.build 36 #[(0,.int .i64 10),(3,.int .i64 7),(1,.int .i64 40000)]).run Tryz.prog w=.ok (.agg #[.int .i64 10,.int .i64 40000,.int .i64 0,.int .i64 7,.int .i64 0,.int .i64 0,.int .i64 0,.int .i64 0,.int .i64 0,.int .i64 0,.int .i64 0,.slice none 0 0,.slice none 0 0,.slice none 0 0,.slice none 0 0,.int .i64 0,.int .i64 0,.slice none 0 0,.slice none 0 0]) w:=by kernel_rfl
attribute [local go_sem ↓] bW dB aY Tv
set_option maxRecDepth 100000 in
set_option maxHeartbeats 8000000 in
theorem Ij {W w:World} {A:aC} (hW:jv W) (h:Sat W w A):Calls Tryz.prog 19 #[] w fun e w'=>e=.returned (.bool true)∧Sat W w' A:=by
 have CA:Hid (∀w' A',Sat W w' A'→Calls Tryz.prog 17 #[.agg #[.int .i64 10,.int .i64 40000,.int .i64 0,.int .i64 7,.int .i64 0,.int .i64 0,.int .i64 0,.int .i64 0,.int .i64 0,.int .i64 0,.int .i64 0,.slice none 0 0,.slice none 0 0,.slice none 0 0,.slice none 0 0,.int .i64 0,.int .i64 0,.slice none 0 0,.slice none 0 0]] w' fun e w''=>e=.returned (.int .i64 0)∧Sat W w'' A'):=ah fun w' A' h'=>by
  have:=Ew hW zA paA YH YQ h'
  rwa [if_pos RG] at this
 have CB:Hid (∀w' A',Sat W w' A'→Calls Tryz.prog 17 #[.agg #[.int .i64 10,.int .i64 40000,.int .i64 0,.int .i64 7,.int .i64 0,.int .i64 3,.int .i64 0,.int .i64 0,.int .i64 0,.int .i64 0,.int .i64 0,.slice none 0 0,.slice none 0 0,.slice none 0 0,.slice none 0 0,.int .i64 0,.int .i64 0,.slice none 0 0,.slice none 0 0]] w' fun e w''=>e=.returned (.int .i64 1)∧Sat W w'' A'):=ah fun w' A' h'=>by
  have:=Ew hW zB paB is_zB acf h'
  rwa [if_neg (by rw[RH];decide)] at this
 have CK1:Hid (∀w' A',Sat W w' A'→Calls Tryz.prog 21 #[.agg #[.int .i64 10,.int .i64 39999,.int .i64 0,.int .i64 7,.int .i64 0,.int .i64 0,.int .i64 0,.int .i64 0,.int .i64 0,.int .i64 0,.int .i64 0,.slice none 0 0,.slice none 0 0,.slice none 0 0,.slice none 0 0,.int .i64 0,.int .i64 0,.slice none 0 0,.slice none 0 0],.agg #[.int .i64 10,.int .i64 40000,.int .i64 0,.int .i64 7,.int .i64 0,.int .i64 0,.int .i64 0,.int .i64 0,.int .i64 0,.int .i64 0,.int .i64 0,.slice none 0 0,.slice none 0 0,.slice none 0 0,.slice none 0 0,.int .i64 0,.int .i64 0,.slice none 0 0,.slice none 0 0]] w' fun e w''=>e=.returned (.int .i64 (-1))∧Sat W w'' A'):=ah fun w' A' h'=>vK zC zA (.inl (by decide)) h'
 have CK2:Hid (∀w' A',Sat W w' A'→Calls Tryz.prog 21 #[.agg #[.int .i64 10,.int .i64 40000,.int .i64 0,.int .i64 7,.int .i64 0,.int .i64 0,.int .i64 0,.int .i64 0,.int .i64 0,.int .i64 0,.int .i64 0,.slice none 0 0,.slice none 0 0,.slice none 0 0,.slice none 0 0,.int .i64 0,.int .i64 0,.slice none 0 0,.slice none 0 0],.agg #[.int .i64 10,.int .i64 39999,.int .i64 0,.int .i64 7,.int .i64 0,.int .i64 0,.int .i64 0,.int .i64 0,.int .i64 0,.int .i64 0,.int .i64 0,.slice none 0 0,.slice none 0 0,.slice none 0 0,.slice none 0 0,.int .i64 0,.int .i64 0,.slice none 0 0,.slice none 0 0]] w' fun e w''=>e=.returned (.int .i64 1)∧Sat W w'' A'):=ah fun w' A' h'=>vK zA zC (.inl (by decide)) h'
 have CK3:Hid (∀w' A',Sat W w' A'→Calls Tryz.prog 21 #[.agg #[.int .i64 10,.int .i64 40000,.int .i64 0,.int .i64 7,.int .i64 0,.int .i64 0,.int .i64 0,.int .i64 0,.int .i64 0,.int .i64 0,.int .i64 0,.slice none 0 0,.slice none 0 0,.slice none 0 0,.slice none 0 0,.int .i64 0,.int .i64 0,.slice none 0 0,.slice none 0 0],.agg #[.int .i64 10,.int .i64 40000,.int .i64 0,.int .i64 7,.int .i64 0,.int .i64 0,.int .i64 0,.int .i64 0,.int .i64 0,.int .i64 0,.int .i64 0,.slice none 0 0,.slice none 0 0,.slice none 0 0,.slice none 0 0,.int .i64 0,.int .i64 0,.slice none 0 0,.slice none 0 0]] w' fun e w''=>e=.returned (.int .i64 0)∧Sat W w'' A'):=ah fun w' A' h'=>Ho hW zA paA YH YQ h'
 have h1:=h.alloc (.cells #[.int .i64 10,.int .i64 40000,.int .i64 0,.int .i64 7,.int .i64 0,.int .i64 0,.int .i64 0,.int .i64 0,.int .i64 0,.int .i64 0,.int .i64 0,.slice none 0 0,.slice none 0 0,.slice none 0 0,.slice none 0 0,.int .i64 0,.int .i64 0,.slice none 0 0,.slice none 0 0] 36);have hs1:=Ep w (.int .i64 0) (.int .i64 0) (.int .i64 0) (.int .i64 0) (.int .i64 0) (.int .i64 0) (.int .i64 0) (.int .i64 0) (.int .i64 0) (.int .i64 0) (.int .i64 0) (.slice none 0 0) (.slice none 0 0) (.slice none 0 0) (.slice none 0 0) (.int .i64 0) (.int .i64 0) (.slice none 0 0) (.slice none 0 0) 10 40000 0 7 0 0 0 0 0 0 0 0 0;obtain⟨B,hB⟩:=aB (w.heap.size);obtain⟨w1,hw1⟩:=aB (w.alloc (.cells #[.int .i64 10,.int .i64 40000,.int .i64 0,.int .i64 7,.int .i64 0,.int .i64 0,.int .i64 0,.int .i64 0,.int .i64 0,.int .i64 0,.int .i64 0,.slice none 0 0,.slice none 0 0,.slice none 0 0,.slice none 0 0,.int .i64 0,.int .i64 0,.slice none 0 0,.slice none 0 0] 36));have hsz1:w1.heap.size=B+1:=by rw[hw1,World.size_alloc,hB]
 rw[←hB,←hw1] at h1;rw[←hw1] at hs1;have h2:=h1.alloc (.cells #[.int .i64 10,.int .i64 40000,.int .i64 0,.int .i64 7,.int .i64 0,.int .i64 0,.int .i64 0,.int .i64 0,.int .i64 0,.int .i64 0,.int .i64 0,.slice none 0 0,.slice none 0 0,.slice none 0 0,.slice none 0 0,.int .i64 0,.int .i64 0,.slice none 0 0,.slice none 0 0] 36);have hs2:=Ep w1 (.int .i64 0) (.int .i64 0) (.int .i64 0) (.int .i64 0) (.int .i64 0) (.int .i64 0) (.int .i64 0) (.int .i64 0) (.int .i64 0) (.int .i64 0) (.int .i64 0) (.slice none 0 0) (.slice none 0 0) (.slice none 0 0) (.slice none 0 0) (.int .i64 0) (.int .i64 0) (.slice none 0 0) (.slice none 0 0) 10 40000 0 7 0 0 0 0 0 0 0 0 0;obtain⟨w2,hw2⟩:=aB (w1.alloc (.cells #[.int .i64 10,.int .i64 40000,.int .i64 0,.int .i64 7,.int .i64 0,.int .i64 0,.int .i64 0,.int .i64 0,.int .i64 0,.int .i64 0,.int .i64 0,.slice none 0 0,.slice none 0 0,.slice none 0 0,.slice none 0 0,.int .i64 0,.int .i64 0,.slice none 0 0,.slice none 0 0] 36));have hsz2:w2.heap.size=B+2:=by rw[hw2,World.size_alloc,hsz1]
 rw[hsz1,←hw2] at h2;rw[←hw2] at hs2;have hl1:Sem.run Tryz.prog (jA (.pointer (some ⟨B,0,none⟩))) w1=.ok (.agg #[.int .i64 10,.int .i64 40000,.int .i64 0,.int .i64 7,.int .i64 0,.int .i64 0,.int .i64 0,.int .i64 0,.int .i64 0,.int .i64 0,.int .i64 0,.slice none 0 0,.slice none 0 0,.slice none 0 0,.slice none 0 0,.int .i64 0,.int .i64 0,.slice none 0 0,.slice none 0 0]) w1:=Bo (x:=zA) h1;have h3:=h2.setCell 5 (.int .i64 3);obtain⟨w3,hw3⟩:=aB (w2.setCell ⟨B+1,5,none⟩ (.int .i64 3));rw[←hw3] at h3;have hsz3:w3.heap.size=B+2:=by rw[hw3];simpa using hsz2
 have h3:Sat W w3 (sep (blk (B+1) (.cells zB.cells.toArray 36 (0,0))) (sep (blk B (.cells zA.cells.toArray 36 (0,0))) A)):=h3;have hl3:Sem.run Tryz.prog (jA (.pointer (some ⟨B,0,none⟩))) w3=.ok (.agg #[.int .i64 10,.int .i64 40000,.int .i64 0,.int .i64 7,.int .i64 0,.int .i64 0,.int .i64 0,.int .i64 0,.int .i64 0,.int .i64 0,.int .i64 0,.slice none 0 0,.slice none 0 0,.slice none 0 0,.slice none 0 0,.int .i64 0,.int .i64 0,.slice none 0 0,.slice none 0 0]) w3:=Bo (x:=zA) h3.p1;have h4:=h3.alloc (.cells #[.int .i64 10,.int .i64 40000,.int .i64 0,.int .i64 7,.int .i64 0,.int .i64 0,.int .i64 0,.int .i64 0,.int .i64 0,.int .i64 0,.int .i64 0,.slice none 0 0,.slice none 0 0,.slice none 0 0,.slice none 0 0,.int .i64 0,.int .i64 0,.slice none 0 0,.slice none 0 0] 36);have hs4:=Ep w3 (.int .i64 0) (.int .i64 0) (.int .i64 0) (.int .i64 0) (.int .i64 0) (.int .i64 0) (.int .i64 0) (.int .i64 0) (.int .i64 0) (.int .i64 0) (.int .i64 0) (.slice none 0 0) (.slice none 0 0) (.slice none 0 0) (.slice none 0 0) (.int .i64 0) (.int .i64 0) (.slice none 0 0) (.slice none 0 0) 10 40000 0 7 0 0 0 0 0 0 0 0 0;obtain⟨w4,hw4⟩:=aB (w3.alloc (.cells #[.int .i64 10,.int .i64 40000,.int .i64 0,.int .i64 7,.int .i64 0,.int .i64 0,.int .i64 0,.int .i64 0,.int .i64 0,.int .i64 0,.int .i64 0,.slice none 0 0,.slice none 0 0,.slice none 0 0,.slice none 0 0,.int .i64 0,.int .i64 0,.slice none 0 0,.slice none 0 0] 36));rw[hsz3,←hw4] at h4;rw[←hw4] at hs4;have h5:=h4.setCell 1 (.int .i64 39999);obtain⟨w5,hw5⟩:=aB (w4.setCell ⟨B+2,1,none⟩ (.int .i64 39999));rw[←hw5] at h5;have h5:Sat W w5 (sep (blk (B+2) (.cells zC.cells.toArray 36 (0,0))) (sep (blk (B+1) (.cells zB.cells.toArray 36 (0,0))) (sep (blk B (.cells zA.cells.toArray 36 (0,0))) A))):=h5;obtain⟨X,hX⟩:=aB (sep (blk (B+2) (.cells zC.cells.toArray 36 (0,0))) (sep (blk (B+1) (.cells zB.cells.toArray 36 (0,0))) (sep (blk B (.cells zA.cells.toArray 36 (0,0))) A)));rw[←hX] at h5;have HX:Hid (∀w',Sat W w' X→Sem.run Tryz.prog (jA (.pointer (some ⟨B,0,none⟩))) w'=.ok (.agg #[.int .i64 10,.int .i64 40000,.int .i64 0,.int .i64 7,.int .i64 0,.int .i64 0,.int .i64 0,.int .i64 0,.int .i64 0,.int .i64 0,.int .i64 0,.slice none 0 0,.slice none 0 0,.slice none 0 0,.slice none 0 0,.int .i64 0,.int .i64 0,.slice none 0 0,.slice none 0 0]) w'∧Sem.run Tryz.prog (jA (.pointer (some ⟨B+1,0,none⟩))) w'=.ok (.agg #[.int .i64 10,.int .i64 40000,.int .i64 0,.int .i64 7,.int .i64 0,.int .i64 3,.int .i64 0,.int .i64 0,.int .i64 0,.int .i64 0,.int .i64 0,.slice none 0 0,.slice none 0 0,.slice none 0 0,.slice none 0 0,.int .i64 0,.int .i64 0,.slice none 0 0,.slice none 0 0]) w'∧Sem.run Tryz.prog (jA (.pointer (some ⟨B+2,0,none⟩))) w'=.ok (.agg #[.int .i64 10,.int .i64 39999,.int .i64 0,.int .i64 7,.int .i64 0,.int .i64 0,.int .i64 0,.int .i64 0,.int .i64 0,.int .i64 0,.int .i64 0,.slice none 0 0,.slice none 0 0,.slice none 0 0,.slice none 0 0,.int .i64 0,.int .i64 0,.slice none 0 0,.slice none 0 0]) w'∧Sat W w' A):=ah fun w' h'=>by
  rw[hX] at h';exact⟨Bo (x:=zA) h'.p2,Bo (x:=zB) h'.p1,Bo (x:=zC) h',h'.drop.drop.drop⟩
 have u5:=au (x:=zA) h2 5 _ rfl;have u1:=au (x:=zA) h4 1 _ rfl;have HW:=ah (And.intro hB (And.intro hw1 (And.intro hw2 (And.intro hw3 (And.intro hw4 hw5)))));have HZ:=ah (And.intro hsz1 (And.intro hsz2 hsz3));have H5:=ah h5;obtain⟨u5a,u5b⟩:=u5;obtain⟨u1a,u1b⟩:=u1;clear h h1 h2 h3 h4 h5 hX hw1 hw2 hw3 hw4 hw5 hsz1 hsz2 hsz3;clear hB
 go_enter Tryz.func19,Tryz.ntmps19
 go_upto_region 2 with (fail)
 rw[←HW.out.1]
 go_upto_region 3 with (fail)
 rw[HZ.out.1]
 go_upto_region 4 with (fail)
 rw[←HW.out.2.2.2.1]
 go_upto_region 5 with (fail)
 rw[HZ.out.2.2]
 go_upto_region 6 with (fail)
 rw[←HW.out.2.2.2.2.2];clear hs1 hs2 hs4 hl1 hl3 u5a u5b u1a u1b;obtain⟨l1,l2,l3,-⟩:=HX.out _ H5.out
 go_wp2_with fail
 refine (CA.out _ _ H5.out).mono ?_;rintro e w6 ⟨rfl,h6⟩;have H6:=ah h6;clear h6 l1 l2 l3 H5;obtain⟨l1,l2,l3,-⟩:=HX.out _ H6.out
 go_wp2_with fail
 refine (CB.out _ _ H6.out).mono ?_;rintro e w7 ⟨rfl,h7⟩;have H7:=ah h7;clear h7 l1 l2 l3 H6;obtain⟨l1,l2,l3,-⟩:=HX.out _ H7.out
 go_wp2_with fail
 refine (CK1.out _ _ H7.out).mono ?_;rintro e w8 ⟨rfl,h8⟩;have H8:=ah h8;clear h8 l1 l2 l3 H7;obtain⟨l1,l2,l3,-⟩:=HX.out _ H8.out
 go_wp2_with fail
 refine (CK2.out _ _ H8.out).mono ?_;rintro e w9 ⟨rfl,h9⟩;have H9:=ah h9;clear h9 l1 l2 l3 H8;obtain⟨l1,l2,l3,-⟩:=HX.out _ H9.out
 go_wp2_with fail
 refine (CK3.out _ _ H9.out).mono ?_;rintro e w10 ⟨rfl,h10⟩;have HF:=ah (HX.out _ h10).2.2.2;clear h10 l1 l2 l3 H9
 go_wp2
 go_ret
 exact⟨rfl,HF.out⟩
end Go.Proofs.YthfmaclnccdcbaaGreatDoor
namespace Go.Proofs.YthfmaclnccdcbaaGreatDoor
open Go.ChangeShapes Go.WideShapes Go.ChangeAt Go.RowKit PA
theorem TQ : Tryz.prog.globalNamed "priorart/acts.fields" = some 0 := by kernel_rfl
theorem UW:(Tryz.prog.globals[0]?).map (·.type)=some 96:=by kernel_rfl
def laidQ : List (String × DataW Unit) := [("priorart/acts.fields", Rows.laid_priorart_acts_fields)]
theorem door_met (os:Os) (args:Array Value):laidMetH Tryz.prog laidQ ((World.doorLaid Tryz.prog 14 os).forCall (fun _ _=>0) ⟨#[],args,[]⟩).memory:=
 laidMetH_of_parts3 (fuel:=8) (laidMet_of_run' 8 (by kernel_rfl) (by kernel_rfl)) (by kernel_rfl) (by kernel_rfl)
def WholeOK (W:World):Prop:=jv W
theorem of_laid {W:World} (h:laidMetH Tryz.prog laidQ W):WholeOK W:=by
 rw[MakeChecks.laidMetH_plain _ _ _ (by kernel_rfl)] at h;obtain⟨ps,⟨g0,t0,cs0,f0,p0,q0,hg0,ht0,hv0,hd0,_,_⟩,_,_⟩:=h;obtain rfl:=Option.some.inj (TQ.symm.trans hg0);obtain rfl:=Option.some.inj (UW.symm.trans ht0);obtain⟨xs,m,-,hx,hl,hxl,hi⟩:=DataW.trod_array Tryz.underlying96 hd0;have c1:Tryz.prog.cellsOf 3=1:=by kernel_rfl
 have c22:Tryz.prog.cellsOf 96=22:=by kernel_rfl
 rw[c22] at hl;rw[c1] at hi;have hmap:xs.map (·.1)=oK.map fun n=>DataW.lit (.int .i64 n):=by
  simp only[Rows.laid_priorart_acts_fields,Prod.mk.injEq,DataW.agg.injEq] at hx;exact hx.1.symm
 intro k r hr;have hk:k<22:=(List.getElem?_eq_some_iff.1 hr).1;have h1:=hi k hk;have hxk:xs[k]?=some xs[k]:=List.getElem?_eq_getElem (by omega);rw[hxk,Nat.mul_one] at h1;have hy:xs[k].1=DataW.lit (.int .i64 r):=by
  have h2:(xs.map (·.1))[k]?=some xs[k].1:=by rw[List.getElem?_map,hxk];rfl
  rw[hmap,List.getElem?_map,hr] at h2;simpa using h2.symm
 obtain⟨l⟩:=cs0;simp only at hl h1;have hcell:∃v,l[k]?=some v∧(l.drop k).take 1=[v]:=by
  have hkl:k<l.length:=by simpa[hl] using hk
  exact⟨l[k],List.getElem?_eq_getElem hkl,by rw[List.drop_eq_getElem_cons hkl];rfl⟩
 obtain⟨v,hv,ht⟩:=hcell;rw[ht] at h1;obtain⟨n,e1,e2,-⟩:=DataW.trod_int Tryz.underlying3 h1;simp only[List.cons.injEq,and_true] at e1;rw[e2] at hy;simp only[DataW.lit.injEq,Lit.int.injEq,true_and] at hy;have q:=World.var?_cell hg0 hv0 k;rw[←hy,←e1,←hv];simpa using q
end Go.Proofs.YthfmaclnccdcbaaGreatDoor

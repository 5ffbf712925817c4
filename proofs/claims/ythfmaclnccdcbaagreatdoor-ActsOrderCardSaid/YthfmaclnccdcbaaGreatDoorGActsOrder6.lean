/- Part of a proof. -/
import Derived.Test.YthfmaclnccdcbaaGreatDoorGActsOrder5
import Derived.Deep.CutBlock
import Derived.Lib.SliceRun
import Derived.Deep.WholeRow
namespace Go.Proofs.YthfmaclnccdcbaaGreatDoor
open Go.RowKit PA
end Go.Proofs.YthfmaclnccdcbaaGreatDoor
namespace Go.Proofs.YthfmaclnccdcbaaGreatDoor
open Go.RowKit PA
theorem uS:(Tryz.prog.info? 36).map (fun i=>(i.zero,i.size,i.bytes))=some (some (.agg Ac.zero.cells.toArray),19,248):=by kernel_rfl
theorem KU {W w:World} {A:aC} {a:Option Addr} {n c:Nat} {xs:List Ac} (hn:xs.length=n) (h0:0<n) (h:Sat W w (sep (aT 36 19 a n c (dA xs)) A)):
 ∃g tl,a=some ⟨g,0,none⟩∧n≤c∧c≤maxLen∧(n*19+tl.length=c*19)∧Sat W w (sep (Ad g n (fun i=>xs.getD i default) tl) A):=by
 rcases h.gJ with ⟨-,rfl,-,-,-⟩|⟨g,cur,rfl,h1,h2,h3,h4,h5,h6⟩
 ·omega
 ·have hle:n*19≤c*19:=Nat.mul_le_mul_right _ h2
  refine⟨g,cur.toList.drop (n*19),rfl,h2,h3,by rw[List.length_drop,Array.length_toList,h4];omega,?_⟩;unfold Ad;subst hn;rw[Dp,←h5,List.take_append_drop,Array.toArray_toList];exact h6
theorem Jy {W w:World} {A:aC} {g n c:Nat} {f:Nat→Ac} {tl:List Value} (h2:n≤c) (h3:c≤maxLen) (h4:n*19+tl.length=c*19) (h:Sat W w (sep (Ad g n f tl) A)):
 Sat W w (sep (aT 36 19 (some ⟨g,0,none⟩) n c (dA ((List.range n).map f))) A):=by
 have hl:(dA ((List.range n).map f)).length=n*19:=by rw[jY];simp
 refine h.kT n c 19 _ hl h2 h3 (by simp[hl];omega) ?_;show (dA ((List.range n).map f)++tl).take (n*19)=_;rw[←hl,List.take_left]
end Go.Proofs.YthfmaclnccdcbaaGreatDoor
namespace Go.Proofs.YthfmaclnccdcbaaGreatDoor
open Go.RowKit PA
attribute [local go_sem ↓] aY
theorem gK {W w:World} {A:aC} {q:Nat} {x:Ac} {t:TypeId} {fr:Nat×Nat} (h:Sat W w (sep (blk q (.cells x.cells.toArray t fr)) A)):Sem.run Tryz.prog (loadCellsFrom ⟨q,0,none⟩ 0 kA #[]) w=.ok x.cells.toArray w:=by
 have hl:x.cells.length=kA:=rfl;have:=run_loadCells_list (P:=Tryz.prog) w ⟨q,0,none⟩ x.cells (fun j v hj=>by
  have e:(⟨q,0,none⟩:Addr).add j=⟨q,j,none⟩:=by unfold Addr.add;split<;>simp_all
  rw[e,Sat.cell h];simpa using hj)
 rw[hl] at this;exact this
end Go.Proofs.YthfmaclnccdcbaaGreatDoor
namespace Go.Proofs.YthfmaclnccdcbaaGreatDoor
open Go.RowKit PA
def LJ (a v:Value):Sem Unit:=Instr.storeAt 36 a v
def jA (a:Value):Sem Value:=Instr.loadAt 36 a
theorem bW (a v:Value):Instr.storeAt 36 a v=LJ a v:=rfl
theorem dB (a:Value):Instr.loadAt 36 a=jA a:=rfl
theorem Dk (w:World):(Go.isAgg 36).run Tryz.prog w=.ok true w:=by kernel_rfl
theorem bU {w:World} {q:Nat} {cs:Array Value} (h:w.heap[q]?=some (.cells cs 36 (0,0))) (hs:cs.size=19) (x:Ac):
 Sem.run Tryz.prog (LJ (.pointer (some ⟨q,0,none⟩)) (.agg x.cells.toArray)) w=.ok () (w.setRow q x.cells.toArray):=by
 have hst:=run_storeCells_at Tryz.prog q 0 36 x.cells 0 cs w h (by show 0+0+19≤_;omega) x.one;have e:cs.toList.take (0+0)++x.cells++cs.toList.drop (0+0+x.cells.length)=x.cells:=by
  have hd:cs.toList.drop (0+0+x.cells.length)=[]:=List.drop_eq_nil_of_le (by rw[Array.length_toList,hs];show 19≤0+0+19;omega);rw[hd,List.append_nil];rfl
 rw[e] at hst;have hk:¬(Value.agg x.cells.toArray).cells.size≠kA:=by
  intro hc;exact hc rfl
 show Sem.run Tryz.prog (storeVar 36 ⟨q,0,none⟩ (.agg x.cells.toArray)) w=_;unfold storeVar;rw[Sem.run_bind,aY];show Sem.run Tryz.prog (if (Value.agg x.cells.toArray).cells.size≠kA then _ else _) w=_;rw[if_neg hk];exact hst
theorem Ur {P:Program} (B:Sem Bool) (N:Sem Nat) (L:Nat→Sem (Array Value)) (e:Sem Value) {n:Nat} {c:Array Value} {w:World} (hB:B.run P w=.ok true w) (hN:N.run P w=.ok n w) (hL:(L n).run P w=.ok c w):
 Sem.run P (do if ←B then pure (.agg (←L (←N))) else e) w=.ok (.agg c) w:=by
 rw[Sem.run_bind,hB];show Sem.run P (do pure (Value.agg (←L (←N)))) w=_;rw[Sem.run_bind,hN];show Sem.run P (do pure (Value.agg (←L n))) w=_;rw[Sem.run_bind,hL];rfl
theorem jo {w:World} {q:Nat} {x:Ac} (h:∀i v,x.cells[i]?=some v→w.cell? ⟨q,i,none⟩=some v):
 Sem.run Tryz.prog (jA (.pointer (some ⟨q,0,none⟩))) w=.ok (.agg x.cells.toArray) w:=by
 have hl:x.cells.length=kA:=rfl;have:=run_loadCells_list (P:=Tryz.prog) w ⟨q,0,none⟩ x.cells (fun j v hj=>by
  have e:(⟨q,0,none⟩:Addr).add j=⟨q,j,none⟩:=by unfold Addr.add;split<;>simp_all
  rw[e];exact h j v hj)
 rw[hl] at this;show Sem.run Tryz.prog (loadVar 36 ⟨q,0,none⟩) w=_;unfold loadVar;exact Ur (Go.isAgg 36) (Go.sizeOf 36) (loadCells ⟨q,0,none⟩) _ (Dk w) (aY w) this
theorem Ep (w:World) (c0 c1 c2 c3 c4 c5 c6 c7 c8 c9 c10 c11 c12 c13 c14 c15 c16 c17 c18:Value) (k d n f o p q u m sn sd fo fn:Int):
 Sem.run Tryz.prog (LJ (.pointer (some ⟨w.heap.size,0,none⟩)) (.agg #[.int .i64 k,.int .i64 d,.int .i64 n,.int .i64 f,.int .i64 o,.int .i64 p,.int .i64 q,.int .i64 u,.int .i64 m,.int .i64 sn,.int .i64 sd,.slice none 0 0,.slice none 0 0,.slice none 0 0,.slice none 0 0,.int .i64 fo,.int .i64 fn,.slice none 0 0,.slice none 0 0])) (w.alloc (.cells #[c0,c1,c2,c3,c4,c5,c6,c7,c8,c9,c10,c11,c12,c13,c14,c15,c16,c17,c18] 36))=.ok () (w.alloc (.cells #[.int .i64 k,.int .i64 d,.int .i64 n,.int .i64 f,.int .i64 o,.int .i64 p,.int .i64 q,.int .i64 u,.int .i64 m,.int .i64 sn,.int .i64 sd,.slice none 0 0,.slice none 0 0,.slice none 0 0,.slice none 0 0,.int .i64 fo,.int .i64 fn,.slice none 0 0,.slice none 0 0] 36)):=by
 have h:(w.alloc (.cells #[c0,c1,c2,c3,c4,c5,c6,c7,c8,c9,c10,c11,c12,c13,c14,c15,c16,c17,c18] 36)).heap[w.heap.size]?=some (.cells #[c0,c1,c2,c3,c4,c5,c6,c7,c8,c9,c10,c11,c12,c13,c14,c15,c16,c17,c18] 36 (0,0)):=heap_alloc_last _ _;have:=bU h rfl ⟨k,d,n,f,o,p,q,u,m,sn,sd,ak,ak,ak,ak,fo,fn,ak,ak⟩;rw[show (w.alloc (.cells #[.int .i64 k,.int .i64 d,.int .i64 n,.int .i64 f,.int .i64 o,.int .i64 p,.int .i64 q,.int .i64 u,.int .i64 m,.int .i64 sn,.int .i64 sd,.slice none 0 0,.slice none 0 0,.slice none 0 0,.slice none 0 0,.int .i64 fo,.int .i64 fn,.slice none 0 0,.slice none 0 0] 36))=(w.alloc (.cells #[c0,c1,c2,c3,c4,c5,c6,c7,c8,c9,c10,c11,c12,c13,c14,c15,c16,c17,c18] 36)).setRow w.heap.size #[.int .i64 k,.int .i64 d,.int .i64 n,.int .i64 f,.int .i64 o,.int .i64 p,.int .i64 q,.int .i64 u,.int .i64 m,.int .i64 sn,.int .i64 sd,.slice none 0 0,.slice none 0 0,.slice none 0 0,.slice none 0 0,.int .i64 fo,.int .i64 fn,.slice none 0 0,.slice none 0 0] from (World.setRow_alloc_new w _ _ 36).symm];exact this
theorem au {W w:World} {A:aC} {q:Nat} {x:Ac} (h:Sat W w (sep (blk q (.cells x.cells.toArray 36 (0,0))) A)) (i:Nat) (v:Value) (hv:x.cells[i]?=some v):w.cell? ⟨q,i,none⟩=some v∧w.frozen? ⟨q,i,none⟩=false:=
 ⟨by rw[h.cell i];simpa using hv,h.aH i⟩
theorem Bo {W w:World} {A:aC} {q:Nat} {x:Ac} (h:Sat W w (sep (blk q (.cells x.cells.toArray 36 (0,0))) A)):
 Sem.run Tryz.prog (jA (.pointer (some ⟨q,0,none⟩))) w=.ok (.agg #[.int .i64 x.k,.int .i64 x.d,.int .i64 x.n,.int .i64 x.f,.int .i64 x.o,.int .i64 x.p,.int .i64 x.q,.int .i64 x.u,.int .i64 x.m,.int .i64 x.sn,.int .i64 x.sd,.slice x.td.a x.td.n x.td.c,.slice x.tc.a x.tc.n x.tc.c,.slice x.cl.a x.cl.n x.cl.c,.slice x.ea.a x.ea.n x.ea.c,.int .i64 x.fo,.int .i64 x.fn,.slice x.fi.a x.fi.n x.fi.c,.slice x.fk.a x.fk.n x.fk.c]) w:=
 jo fun i v hv=>(au h i v hv).1
end Go.Proofs.YthfmaclnccdcbaaGreatDoor
namespace PA
open Go Go.RowKit
def Nu (l:List Ea):List Value:=l.flatMap fun e=>[Value.int .i64 e.file,.int .i64 e.day]
theorem Qa {I:Mem}:∀{vs:List Value} {xs:List Ea},(MJ.rows 2).rel I vs xs↔vs=Nu xs:=by
 intro vs xs;constructor
 ·rintro⟨css,rfl,h⟩
  induction xs generalizing css with
  | nil=>cases css with
   | nil=>rfl
   | cons c l=>exact h.elim
  | cons x xs ih=>cases css with
   | nil=>exact h.elim
   | cons c l=>
    obtain⟨⟨h1,-⟩,h2⟩:=h;have e:c=[.int .i64 x.file,.int .i64 x.day]:=h1;subst e;have:=ih l h2;rw[List.flatten_cons,this];rfl
 ·rintro rfl
  refine⟨xs.map fun e=>[Value.int .i64 e.file,.int .i64 e.day],by unfold Nu;rw[List.flatMap_def],?_⟩
  induction xs with
  | nil=>trivial
  | cons x xs ih=>exact⟨⟨rfl,rfl⟩,ih⟩
theorem WA (l:List Ea):(Nu l).length=l.length*2:=by
 unfold Nu
 induction l with
 | nil=>rfl
 | cons x l ih=>rw[List.flatMap_cons,dF,ih,List.length_cons];simp;omega
theorem WB (l:List Ea):∀u∈Nu l,u.oneCell'=true:=by
 intro u hu;unfold Nu at hu;obtain⟨e,-,he⟩:=List.mem_flatMap.1 hu;simp only[List.mem_cons,List.not_mem_nil,or_false] at he;rcases he with rfl|rfl<;>rfl
theorem Wy (a b:List Ea):Nu (a++b)=Nu a++Nu b:=by unfold Nu;rw[List.flatMap_append]
end PA
namespace Go.Proofs.YthfmaclnccdcbaaGreatDoor
open Go.RowKit PA
theorem xK:(Tryz.prog.info? 93).map (fun i=>(i.zero,i.size,i.bytes))=some (some (.agg #[.int .i64 0,.int .i64 0]),2,16):=by kernel_rfl
theorem WW:(Tryz.prog.info? 91).map (fun i=>(i.zero,i.size,i.bytes))=some (some (.agg #[.slice none 0 0,.int .i64 0,.int .i64 0,.slice none 0 0,.slice none 0 0]),5,88):=by kernel_rfl
theorem Um:(Tryz.prog.info? 3).map (fun i=>(i.zero,i.size,i.bytes))=some (some (.int .i64 0),1,8):=by kernel_rfl
def XY (n:Nat) (p:Array (Nat×Value)):Sem Value:=Instr.buildSlice 27 n p
theorem BN (n:Nat) (p:Array (Nat×Value)):Instr.buildSlice 27 n p=XY n p:=rfl
theorem bsFmO1 (w:World) (c0 c1 c2 c3:Value):(XY 1 #[(0,.agg #[c0,c1,c2,c3])]).run Tryz.prog w=.ok (.slice (some ⟨w.heap.size,0,none⟩) 1 1) (w.alloc (.cells #[c0,c1,c2,c3] 34)):=by
 obtain⟨i,h1,h2,h3,h4⟩:=info_parts iF;exact run_buildSlice w 27 34 1 _ _ i _ Tryz.underlying27 h1 h2 (by rw[h3];omega) (by rw[h3];omega) (by rw[h3];kernel_rfl)
def XW (n:Nat) (p:Array (Nat×Value)):Sem Value:=Instr.buildSlice 28 n p
theorem BM (n:Nat) (p:Array (Nat×Value)):Instr.buildSlice 28 n p=XW n p:=rfl
theorem bsClO1 (w:World) (c0 c1 c2 c3 c4:Value):(XW 1 #[(0,.agg #[c0,c1,c2,c3,c4])]).run Tryz.prog w=.ok (.slice (some ⟨w.heap.size,0,none⟩) 1 1) (w.alloc (.cells #[c0,c1,c2,c3,c4] 91)):=by
 obtain⟨i,h1,h2,h3,h4⟩:=info_parts WW;exact run_buildSlice w 28 91 1 _ _ i _ Tryz.underlying28 h1 h2 (by rw[h3];omega) (by rw[h3];omega) (by rw[h3];kernel_rfl)
def bsEO (n:Nat) (p:Array (Nat×Value)):Sem Value:=Instr.buildSlice 31 n p
theorem EM (n:Nat) (p:Array (Nat×Value)):Instr.buildSlice 31 n p=bsEO n p:=rfl
theorem bsEO0 (w:World):(bsEO 0 #[]).run Tryz.prog w=.ok (.slice (some ⟨w.heap.size,0,none⟩) 0 0) (w.alloc (.cells #[] 93)):=by
 obtain⟨i,h1,h2,h3,h4⟩:=info_parts xK;show (Instr.buildSlice 31 0 #[]).run Tryz.prog w=_;simp[Instr.buildSlice,run_underlying Tryz.underlying31,sizeOf,typeInfo,h1,newRow,Instr.fill];have e:∀g:Nat→Value,(Array.range 0).map g=#[]:=fun g=>Array.eq_empty_of_size_eq_zero (by simp)
 rw[e]
theorem bsEO2 (w:World) (c0 c1 c2 c3:Value):(bsEO 2 #[(0,.agg #[c0,c1]),(1,.agg #[c2,c3])]).run Tryz.prog w=.ok (.slice (some ⟨w.heap.size,0,none⟩) 2 2) (w.alloc (.cells #[c0,c1,c2,c3] 93)):=by
 obtain⟨i,h1,h2,h3,h4⟩:=info_parts xK;exact run_buildSlice w 31 93 2 _ _ i _ Tryz.underlying31 h1 h2 (by rw[h3];omega) (by rw[h3];omega) (by rw[h3];kernel_rfl)
def bsIO (n:Nat) (p:Array (Nat×Value)):Sem Value:=Instr.buildSlice 22 n p
theorem EN (n:Nat) (p:Array (Nat×Value)):Instr.buildSlice 22 n p=bsIO n p:=rfl
theorem bsIO1 (w:World) (c0:Int):(bsIO 1 #[(0,.int .i64 c0)]).run Tryz.prog w=.ok (.slice (some ⟨w.heap.size,0,none⟩) 1 1) (w.alloc (.cells #[.int .i64 c0] 3)):=by
 obtain⟨i,h1,h2,h3,h4⟩:=info_parts Um;exact run_buildSlice w 22 3 1 _ _ i _ Tryz.underlying22 h1 h2 (by rw[h3];omega) (by rw[h3];omega) (by rw[h3];kernel_rfl)
attribute [local go_sem ↓] bW dB aY BN BM EN EM
attribute [local go_sem] bsFmO1 bsClO1 bsIO1 bsEO0 bsEO2
set_option maxRecDepth 100000 in
set_option maxHeartbeats 16000000 in
theorem LH {W w:World} {A:aC} {I:Mem} (z:Ac) (x:Pa) (how b:Int) (hA:kX I z x) (hh:iK how) (_hb:iK b) (hel:x.ea.length≤1000) (h:Sat W w (sep (kn I) A)):
 Calls Tryz.prog 15 #[.agg z.cells.toArray,.int .i64 how,.int .i64 b] w fun e w'=>∃(z':Ac) (J:Mem),e=.returned (.agg z'.cells.toArray)∧Mem.le I J∧kX J z' (vW x (fV how 14) b)∧Sat W w' (sep (kn J) A):=by
 have h1:=(h.alloc (.cells z.cells.toArray 36)).alloc (.cells #[.int .i64 0,.int .i64 0,.int .i64 0,.int .i64 0,.int .i64 0,.int .i64 0,.int .i64 0,.int .i64 0,.int .i64 0,.int .i64 0,.int .i64 0,.slice none 0 0,.slice none 0 0,.slice none 0 0,.slice none 0 0,.int .i64 0,.int .i64 0,.slice none 0 0,.slice none 0 0] 36);rw[World.size_alloc] at h1;obtain⟨B,hB⟩:=aB (w.heap.size);obtain⟨w1,hw1⟩:=aB ((w.alloc (.cells z.cells.toArray 36)).alloc (.cells #[.int .i64 0,.int .i64 0,.int .i64 0,.int .i64 0,.int .i64 0,.int .i64 0,.int .i64 0,.int .i64 0,.int .i64 0,.int .i64 0,.int .i64 0,.slice none 0 0,.slice none 0 0,.slice none 0 0,.slice none 0 0,.int .i64 0,.int .i64 0,.slice none 0 0,.slice none 0 0] 36));rw[←hB,←hw1] at h1;have h1:Sat W w1 (sep (blk (B+1) (.cells Ac.zero.cells.toArray 36 (0,0))) (sep (blk B (.cells z.cells.toArray 36 (0,0))) (sep (kn I) A))):=h1;have HB:=ah (And.intro hB hw1);have har:=jJ how 14 w1 hh.1 hh.2 (by omega) (by omega);have hlt:=iY how 14 (by omega);obtain⟨r,hr⟩:=aB (fV how 14);rw[←hr] at har hlt ⊢;have YW:=ah har;have h2:Sat W w1 (sep (blk B (.cells z.cells.toArray 36 (0,0))) (sep (blk (B+1) (.cells Ac.zero.cells.toArray 36 (0,0))) (sep (kn I) A))):=dJ h1;have H2:=ah h2;have HA:=ah hA;have ML:=ah hlt;have HEL:=ah hel;obtain⟨Po,dU⟩:∃P:Ending→World→Prop,P=fun e w'=>∃(z':Ac) (J:Mem),e=.returned (.agg z'.cells.toArray)∧Mem.le I J∧kX J z' (vW x r b)∧Sat W w' (sep (kn J) A):=⟨_,rfl⟩
 rw[←dU];have bI:=ah dU;clear hA hh _hb hel h h1 h2 hB hw1 har hlt hr dU
 go_enter Tryz.func15,Tryz.ntmps15
 go_upto_region 1 with (fail)
 rw[←HB.out.1,←HB.out.2]
 go_wp2_with fail
 refine YW.out.mono ?_;rintro e w2 ⟨rfl,rfl⟩;clear YW HB
 go_upto_block 0 with (fail)
 go_cut [] from 9 to 80 (fun wx=>∃(z':Ac) (J:Mem),Hid (Mem.le I J∧kX J z' (vW x r b)∧Sat W wx (sep (blk B (.cells z'.cells.toArray 36 (0,0))) (sep (blk (B+1) (.cells Ac.zero.cells.toArray 36 (0,0))) (sep (kn J) A)))))
 case first=>
  as_aux_lemma=>
  rcases (show r=0∨r=1∨r=2∨r=3∨r=4∨r=5∨r=6∨r=7∨r=8∨r=9∨r=10∨r=11∨r=12∨r=13 by have:=ML.out;omega) with rfl|rfl|rfl|rfl|rfl|rfl|rfl|rfl|rfl|rfl|rfl|rfl|rfl|rfl
  ·as_aux_lemma=>
   obtain⟨q1,q2⟩:=au H2.out 0 _ rfl;have h3:=H2.out.setCell 0 (.int .i64 b);have H3:=ah h3;clear h3
   go_wp2
   go_meet
   case rel=>
    have hA:=HA.out;exact⟨{z with k:=b},I,ah ⟨Mem.le_refl _,⟨rfl,hA.d,hA.n,hA.f,hA.o,hA.p,hA.q,hA.u,hA.m,hA.sn,hA.sd,hA.td,hA.tc,hA.cl,hA.ea,hA.fx⟩,H3.out⟩⟩
  ·as_aux_lemma=>
   obtain⟨q1,q2⟩:=au H2.out 1 _ rfl;have h3:=H2.out.setCell 1 (.int .i64 b);have H3:=ah h3;clear h3
   go_wp2
   go_meet
   case rel=>
    have hA:=HA.out;exact⟨{z with d:=b},I,ah ⟨Mem.le_refl _,⟨hA.k,rfl,hA.n,hA.f,hA.o,hA.p,hA.q,hA.u,hA.m,hA.sn,hA.sd,hA.td,hA.tc,hA.cl,hA.ea,hA.fx⟩,H3.out⟩⟩
  ·as_aux_lemma=>
   obtain⟨q1,q2⟩:=au H2.out 2 _ rfl;have h3:=H2.out.setCell 2 (.int .i64 b);have H3:=ah h3;clear h3
   go_wp2
   go_meet
   case rel=>
    have hA:=HA.out;exact⟨{z with n:=b},I,ah ⟨Mem.le_refl _,⟨hA.k,hA.d,rfl,hA.f,hA.o,hA.p,hA.q,hA.u,hA.m,hA.sn,hA.sd,hA.td,hA.tc,hA.cl,hA.ea,hA.fx⟩,H3.out⟩⟩
  ·as_aux_lemma=>
   obtain⟨q1,q2⟩:=au H2.out 3 _ rfl;have h3:=H2.out.setCell 3 (.int .i64 b);have H3:=ah h3;clear h3
   go_wp2
   go_meet
   case rel=>
    have hA:=HA.out;exact⟨{z with f:=b},I,ah ⟨Mem.le_refl _,⟨hA.k,hA.d,hA.n,rfl,hA.o,hA.p,hA.q,hA.u,hA.m,hA.sn,hA.sd,hA.td,hA.tc,hA.cl,hA.ea,hA.fx⟩,H3.out⟩⟩
  ·as_aux_lemma=>
   obtain⟨q1,q2⟩:=au H2.out 4 _ rfl;have h3:=H2.out.setCell 4 (.int .i64 b);have H3:=ah h3;clear h3
   go_wp2
   go_meet
   case rel=>
    have hA:=HA.out;exact⟨{z with o:=b},I,ah ⟨Mem.le_refl _,⟨hA.k,hA.d,hA.n,hA.f,rfl,hA.p,hA.q,hA.u,hA.m,hA.sn,hA.sd,hA.td,hA.tc,hA.cl,hA.ea,hA.fx⟩,H3.out⟩⟩
  ·as_aux_lemma=>
   obtain⟨q1,q2⟩:=au H2.out 5 _ rfl;have h3:=H2.out.setCell 5 (.int .i64 b);have H3:=ah h3;clear h3
   go_wp2
   go_meet
   case rel=>
    have hA:=HA.out;exact⟨{z with p:=b},I,ah ⟨Mem.le_refl _,⟨hA.k,hA.d,hA.n,hA.f,hA.o,rfl,hA.q,hA.u,hA.m,hA.sn,hA.sd,hA.td,hA.tc,hA.cl,hA.ea,hA.fx⟩,H3.out⟩⟩
  ·as_aux_lemma=>
   obtain⟨q1,q2⟩:=au H2.out 6 _ rfl;have h3:=H2.out.setCell 6 (.int .i64 b);have H3:=ah h3;clear h3
   go_wp2
   go_meet
   case rel=>
    have hA:=HA.out;exact⟨{z with q:=b},I,ah ⟨Mem.le_refl _,⟨hA.k,hA.d,hA.n,hA.f,hA.o,hA.p,rfl,hA.u,hA.m,hA.sn,hA.sd,hA.td,hA.tc,hA.cl,hA.ea,hA.fx⟩,H3.out⟩⟩
  ·as_aux_lemma=>
   obtain⟨q1,q2⟩:=au H2.out 7 _ rfl;have h3:=H2.out.setCell 7 (.int .i64 b);have H3:=ah h3;clear h3
   go_wp2
   go_meet
   case rel=>
    have hA:=HA.out;exact⟨{z with u:=b},I,ah ⟨Mem.le_refl _,⟨hA.k,hA.d,hA.n,hA.f,hA.o,hA.p,hA.q,rfl,hA.m,hA.sn,hA.sd,hA.td,hA.tc,hA.cl,hA.ea,hA.fx⟩,H3.out⟩⟩
  ·as_aux_lemma=>
   obtain⟨q1,q2⟩:=au H2.out 8 _ rfl;have h3:=H2.out.setCell 8 (.int .i64 b);have H3:=ah h3;clear h3
   go_wp2
   go_meet
   case rel=>
    have hA:=HA.out;exact⟨{z with m:=b},I,ah ⟨Mem.le_refl _,⟨hA.k,hA.d,hA.n,hA.f,hA.o,hA.p,hA.q,hA.u,rfl,hA.sn,hA.sd,hA.td,hA.tc,hA.cl,hA.ea,hA.fx⟩,H3.out⟩⟩
  ·as_aux_lemma=>
   obtain⟨q1,q2⟩:=au H2.out 9 _ rfl;obtain⟨q3,q4⟩:=au H2.out 10 _ rfl;have h3:=(H2.out.setCell 9 (.int .i64 b)).setCell 10 (.int .i64 2);have H3:=ah h3;clear h3
   go_wp2
   go_meet
   case rel=>
    have hA:=HA.out;exact⟨{z with sn:=b,sd:=2},I,ah ⟨Mem.le_refl _,⟨hA.k,hA.d,hA.n,hA.f,hA.o,hA.p,hA.q,hA.u,hA.m,rfl,rfl,hA.td,hA.tc,hA.cl,hA.ea,hA.fx⟩,H3.out⟩⟩
  ·as_aux_lemma=>
   obtain⟨J,hle,hr,h3⟩:=rY (R:=rF) (k:=4) (show Sat W w1 (sep (kn I) (sep (blk B (.cells z.cells.toArray 36 (0,0))) (sep (blk (B+1) (.cells Ac.zero.cells.toArray 36 (0,0))) A))) from H2.out.p2) [.int .i64 b,.int .i64 0,.slice none 0 0,.slice none 0 0] [.mk b 0 [] []] 34 (ig (AY I b 0) rfl) (by simp[maxLen]);have h4:Sat W (w1.alloc (.cells #[.int .i64 b,.int .i64 0,.slice none 0 0,.slice none 0 0] 34)) (sep (blk B (.cells z.cells.toArray 36 (0,0))) (sep (blk (B+1) (.cells Ac.zero.cells.toArray 36 (0,0))) (sep (kn J) A))):=by
    have h9:=h3;simpa only[aA,ay,aj] using h9
   obtain⟨q1,q2⟩:=au h4 11 _ rfl;obtain⟨q3,q4⟩:=au h4 12 _ rfl;have h5:=(h4.setCell 11 (.slice (some ⟨w1.heap.size,0,none⟩) 1 1)).setCell 12 (.slice none 0 0);have H5:=ah (And.intro (And.intro hle hr) h5);clear h3 h4 h5 hr hle
   go_wp2
   go_meet
   case rel=>
    have hA:=HA.out.mono H5.out.1.1;exact⟨{z with td:=⟨some ⟨w1.heap.size,0,none⟩,1,1⟩,tc:=ak},J,ah ⟨H5.out.1.1,⟨hA.k,hA.d,hA.n,hA.f,hA.o,hA.p,hA.q,hA.u,hA.m,hA.sn,hA.sd,H5.out.1.2,aF _ _ _,hA.cl,hA.ea,hA.fx⟩,H5.out.2⟩⟩
  ·as_aux_lemma=>
   have hp:=show Sat W w1 (sep (kn I) (sep (blk B (.cells z.cells.toArray 36 (0,0))) (sep (blk (B+1) (.cells Ac.zero.cells.toArray 36 (0,0))) A))) from H2.out.p2;obtain⟨J1,hle1,hr1,h3⟩:=Xa hp [b] 3 (by simp[maxLen]);obtain⟨J,hle,hr,h4⟩:=rY (R:=kM) (k:=5) h3 [.slice (some ⟨w1.heap.size,0,none⟩) 1 1,.int .i64 0,.int .i64 0,.slice none 0 0,.slice none 0 0] [⟨[b],Fm.zero⟩] 91 (ig ⟨_,_,_,rfl,hr1,dS _⟩ rfl) (by simp[maxLen]);rw[World.size_alloc] at hr;have hle':=eG hle1 hle;have h5:Sat W ((w1.alloc (.cells #[.int .i64 b] 3)).alloc (.cells #[.slice (some ⟨w1.heap.size,0,none⟩) 1 1,.int .i64 0,.int .i64 0,.slice none 0 0,.slice none 0 0] 91)) (sep (blk B (.cells z.cells.toArray 36 (0,0))) (sep (blk (B+1) (.cells Ac.zero.cells.toArray 36 (0,0))) (sep (kn J) A))):=by
    have h9:Sat W ((w1.alloc (.cells #[.int .i64 b] 3)).alloc (.cells #[.slice (some ⟨w1.heap.size,0,none⟩) 1 1,.int .i64 0,.int .i64 0,.slice none 0 0,.slice none 0 0] 91)) _:=h4;simpa only[aA,ay,aj] using h9
   obtain⟨q1,q2⟩:=au h5 13 _ rfl;have h6:=h5.setCell 13 (.slice (some ⟨w1.heap.size+1,0,none⟩) 1 1);have H6:=ah (And.intro (And.intro hle' hr) h6);clear h3 h4 h5 h6 hr hr1 hle hle1 hle' hp
   go_wp2
   go_meet
   case rel=>
    have hA:=HA.out.mono H6.out.1.1;exact⟨{z with cl:=⟨some ⟨w1.heap.size+1,0,none⟩,1,1⟩},J,ah ⟨H6.out.1.1,⟨hA.k,hA.d,hA.n,hA.f,hA.o,hA.p,hA.q,hA.u,hA.m,hA.sn,hA.sd,hA.td,hA.tc,H6.out.1.2,hA.ea,hA.fx⟩,H6.out.2⟩⟩
  ·as_aux_lemma=>
   obtain⟨a,cc,vs,ez,hsw,hca,hrow⟩:=HA.out.ea;simp only[Sv.v,List.cons.injEq,Value.slice.injEq,and_true] at ez;have hvs:=Qa.1 hrow;subst hvs;obtain⟨rfl,hn,rfl⟩:=ez;have h3:=((show Sat W w1 (sep (blk B (.cells z.cells.toArray 36 (0,0))) (sep (blk (B+1) (.cells Ac.zero.cells.toArray 36 (0,0))) (sep (kn I) A))) from H2.out).alloc (.cells #[] 93)).kT (E:=93) 0 0 2 [] rfl (by omega) (by unfold maxLen;omega) rfl rfl;have hsrc:=fun b hb=>PW (AZ hca H2.out.p2.ext b hb) (.cells #[] 93)
   have q1:=(au h3.p1 14 _ rfl).1;have hn3:z.ea.n≤1000:=by have:=HEL.out;omega
   have hn3z:(z.ea.n:Int)≤1000:=by omega
   have HN:=ah hn;have HS:=ah (And.intro h3 (And.intro hsrc (show z.ea.a=none→z.ea.n=0 from fun e=>by have:=hsw.1;have:=hsw.2.2 e;omega)));have HLN:Hid ((Nu x.ea).length=z.ea.n*2):=ah (by rw[WA,hn]);have Aa:=ah (fun (w:World)=>iP w [.int .i64 b,.int .i64 5,.int .i64 4095,.int .i64 b] 93);clear h3 hsrc hn hca hsw hrow
   go_wp2_with (at_builtin;go_loud (refine aJ rfl _ _ 31 rfl 93 2 16 _ Tryz.underlying31 xK rfl rfl HS.out.1 rfl (Nu x.ea) HLN.out HS.out.2.2 HS.out.2.1 (WB _) (by omega) (by unfold maxLen;omega) ?_))
   intro a2 c2 w3 h4
   try simp only[Nat.zero_add,List.nil_append] at h4
   have q2:=(au h4.p1 14 _ rfl).1;have h5:=h4.gQ (.cells #[.int .i64 b,.int .i64 5,.int .i64 4095,.int .i64 b] 93);have H5:=ah h5;clear h4 h5 q1
   go_wp2_with (at_builtin;go_loud (refine aJ rfl _ _ 31 rfl 93 2 16 _ Tryz.underlying31 xK rfl rfl H5.out rfl [.int .i64 b,.int .i64 5,.int .i64 4095,.int .i64 b] rfl (by simp) (by intro b' hb;cases hb;exact Aa.out _) (by simp[Value.oneCell']) (by omega) (by unfold maxLen;omega) ?_))
   intro a3 c3 w4 h6;obtain⟨q3,q4⟩:=au h6.p1 14 _ rfl;have hw2:=h6.eX;have h7:=(h6.p1.setCell 14 (.slice a3 (z.ea.n+2) c3)).p1;have H7:=ah (And.intro hw2 h7);clear h6 h7 hw2 q2
   go_wp2
   go_meet
   case rel=>
    have h8:=H7.out.2.fQ;obtain⟨J,hle,hJ,h9⟩:=(show Sat W _ (sep (RU a3 (Nu x.ea++[.int .i64 b,.int .i64 5,.int .i64 4095,.int .i64 b])) (sep (kn I) (sep (blk B (.cells (z.cells.toArray.setIfInBounds 14 (.slice a3 (z.ea.n+2) c3)) 36 (0,0))) (sep (blk (B+1) (.cells Ac.zero.cells.toArray 36 (0,0))) A)))) from dJ h8).learn;have hA:=HA.out.mono hle;have hln:(vW x 12 b).ea.length=z.ea.n+2:=by
     show (x.ea++[Ea.mk b 5,Ea.mk 4095 b]).length=_;rw[dF,←HN.out];rfl
    refine⟨{z with ea:=⟨a3,z.ea.n+2,c3⟩},J,ah ⟨hle,⟨hA.k,hA.d,hA.n,hA.f,hA.o,hA.p,hA.q,hA.u,hA.m,hA.sn,hA.sd,hA.td,hA.tc,hA.cl,?_,hA.fx⟩,?_⟩⟩
    ·refine⟨a3,c3,Nu x.ea++[.int .i64 b,.int .i64 5,.int .i64 4095,.int .i64 b],by rw[hln];rfl,by rw[hln];exact H7.out.1,hJ,Qa.2 ?_⟩
     show _=Nu (x.ea++[Ea.mk b 5,Ea.mk 4095 b]);rw[Wy];rfl
    ·exact h9.p2.p2
  ·as_aux_lemma=>
   obtain⟨q1,q2⟩:=au H2.out 15 _ rfl;obtain⟨q3,q4⟩:=au H2.out 16 _ rfl;obtain⟨q5,q6⟩:=au H2.out 17 _ rfl;obtain⟨q7,q8⟩:=au H2.out 18 _ rfl;have h3:=(((H2.out.setCell 15 (.int .i64 b)).setCell 16 (.int .i64 1)).setCell 17 (.slice none 0 0)).setCell 18 (.slice none 0 0);have H3:=ah h3;clear h3
   go_wp2
   go_meet
   case rel=>
    have hA:=HA.out;exact⟨{z with fo:=b,fn:=1,fi:=ak,fk:=ak},I,ah ⟨Mem.le_refl _,⟨hA.k,hA.d,hA.n,hA.f,hA.o,hA.p,hA.q,hA.u,hA.m,hA.sn,hA.sd,hA.td,hA.tc,hA.cl,hA.ea,AY I b 1⟩,H3.out⟩⟩
 case rest=>
  as_aux_lemma=>
  obtain⟨z',J,HC⟩:=hcut;have hld:=jo (fun i v hv=>(au HC.out.2.2 i v hv).1);have hst:=bU HC.out.2.2.p1.aO rfl z';have h9:=HC.out.2.2.p1.setRow z'.cells.toArray;obtain⟨w5,hw5⟩:=aB (wc.setRow (B+1) z'.cells.toArray);rw[←hw5] at hst h9;have NR:=jo (fun i v hv=>(au h9 i v hv).1);have hres:=gK h9;have H9:=ah h9;clear h9 hw5
  go_wp2
  rw[bI.out];exact bodyPost_ret (v:=.agg z'.cells.toArray) (by simp[results,Tryz.results15,go_sem,↓aY,hres]) rfl ⟨z',J,rfl,HC.out.1,HC.out.2.1,H9.out.drop.drop⟩
end Go.Proofs.YthfmaclnccdcbaaGreatDoor
namespace Go.Proofs.YthfmaclnccdcbaaGreatDoor
open Go.RowKit PA
end Go.Proofs.YthfmaclnccdcbaaGreatDoor

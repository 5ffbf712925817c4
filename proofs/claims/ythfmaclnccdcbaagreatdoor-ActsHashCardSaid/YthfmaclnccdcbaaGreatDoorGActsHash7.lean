/- Part of a proof. -/
import Derived.Test.YthfmaclnccdcbaaGreatDoorGActsHash6
import Derived.Deep.CutBlock
import Derived.Lib.SliceRun
import Derived.Deep.WholeRow
namespace Go.Proofs.YthfmaclnccdcbaaGreatDoor
open Go.RowKit PA
end Go.Proofs.YthfmaclnccdcbaaGreatDoor
namespace Go.Proofs.YthfmaclnccdcbaaGreatDoor
open Go.RowKit PA
theorem xC:(Tryz.prog.info? 36).map (fun i=>(i.zero,i.size,i.bytes))=some (some (.agg Ac.zero.cells.toArray),19,248):=by kernel_rfl
theorem UN {W w:World} {A:aA} {a:Option Addr} {n c:Nat} {xs:List Ac} (hn:xs.length=n) (h0:0<n) (h:Sat W w (sep (aT 36 19 a n c (dF xs)) A)):
 ∃g tl,a=some ⟨g,0,none⟩∧n≤c∧c≤maxLen∧(n*19+tl.length=c*19)∧Sat W w (sep (Jz g n (fun i=>xs.getD i default) tl) A):=by
 rcases h.gY with ⟨-,rfl,-,-,-⟩|⟨g,cur,rfl,h1,h2,h3,h4,h5,h6⟩
 ·omega
 ·have hle:n*19≤c*19:=Nat.mul_le_mul_right _ h2
  refine⟨g,cur.toList.drop (n*19),rfl,h2,h3,by rw[List.length_drop,Array.length_toList,h4];omega,?_⟩;unfold Jz;subst hn;rw[Ot,←h5,List.take_append_drop,Array.toArray_toList];exact h6
theorem Tv {W w:World} {A:aA} {g n c:Nat} {f:Nat→Ac} {tl:List Value} (h2:n≤c) (h3:c≤maxLen) (h4:n*19+tl.length=c*19) (h:Sat W w (sep (Jz g n f tl) A)):
 Sat W w (sep (aT 36 19 (some ⟨g,0,none⟩) n c (dF ((List.range n).map f))) A):=by
 have hl:(dF ((List.range n).map f)).length=n*19:=by rw[lZ];simp
 refine h.lT n c 19 _ hl h2 h3 (by simp[hl];omega) ?_;show (dF ((List.range n).map f)++tl).take (n*19)=_;rw[←hl,List.take_left]
end Go.Proofs.YthfmaclnccdcbaaGreatDoor
namespace Go.Proofs.YthfmaclnccdcbaaGreatDoor
open Go.RowKit PA
attribute [local go_sem ↓] bC
theorem gJ {W w:World} {A:aA} {q:Nat} {x:Ac} {t:TypeId} {fr:Nat×Nat} (h:Sat W w (sep (blk q (.cells x.cells.toArray t fr)) A)):Sem.run Tryz.prog (loadCellsFrom ⟨q,0,none⟩ 0 kA #[]) w=.ok x.cells.toArray w:=by
 have hl:x.cells.length=kA:=rfl;have:=run_loadCells_list (P:=Tryz.prog) w ⟨q,0,none⟩ x.cells (fun j v hj=>by
  have e:(⟨q,0,none⟩:Addr).add j=⟨q,j,none⟩:=by unfold Addr.add;split<;>simp_all
  rw[e,Sat.cell h];simpa using hj)
 rw[hl] at this;exact this
end Go.Proofs.YthfmaclnccdcbaaGreatDoor
namespace Go.Proofs.YthfmaclnccdcbaaGreatDoor
open Go.RowKit PA
def Qi (a v:Value):Sem Unit:=Instr.storeAt 36 a v
def jC (a:Value):Sem Value:=Instr.loadAt 36 a
theorem dw (a v:Value):Instr.storeAt 36 a v=Qi a v:=rfl
theorem dK (a:Value):Instr.loadAt 36 a=jC a:=rfl
theorem xH (w:World):(Go.isAgg 36).run Tryz.prog w=.ok true w:=by kernel_rfl
theorem bQ {w:World} {q:Nat} {cs:Array Value} (h:w.heap[q]?=some (.cells cs 36 (0,0))) (hs:cs.size=19) (x:Ac):
 Sem.run Tryz.prog (Qi (.pointer (some ⟨q,0,none⟩)) (.agg x.cells.toArray)) w=.ok () (w.setRow q x.cells.toArray):=by
 have hst:=run_storeCells_at Tryz.prog q 0 36 x.cells 0 cs w h (by show 0+0+19≤_;omega) x.one;have e:cs.toList.take (0+0)++x.cells++cs.toList.drop (0+0+x.cells.length)=x.cells:=by
  have hd:cs.toList.drop (0+0+x.cells.length)=[]:=List.drop_eq_nil_of_le (by rw[Array.length_toList,hs];show 19≤0+0+19;omega);rw[hd,List.append_nil];rfl
 rw[e] at hst;have hk:¬(Value.agg x.cells.toArray).cells.size≠kA:=by
  intro hc;exact hc rfl
 show Sem.run Tryz.prog (storeVar 36 ⟨q,0,none⟩ (.agg x.cells.toArray)) w=_;unfold storeVar;rw[Sem.run_bind,bC];show Sem.run Tryz.prog (if (Value.agg x.cells.toArray).cells.size≠kA then _ else _) w=_;rw[if_neg hk];exact hst
theorem PU {P:Program} (B:Sem Bool) (N:Sem Nat) (L:Nat→Sem (Array Value)) (e:Sem Value) {n:Nat} {c:Array Value} {w:World} (hB:B.run P w=.ok true w) (hN:N.run P w=.ok n w) (hL:(L n).run P w=.ok c w):
 Sem.run P (do if ←B then pure (.agg (←L (←N))) else e) w=.ok (.agg c) w:=by
 rw[Sem.run_bind,hB];show Sem.run P (do pure (Value.agg (←L (←N)))) w=_;rw[Sem.run_bind,hN];show Sem.run P (do pure (Value.agg (←L n))) w=_;rw[Sem.run_bind,hL];rfl
theorem jU {w:World} {q:Nat} {x:Ac} (h:∀i v,x.cells[i]?=some v→w.cell? ⟨q,i,none⟩=some v):
 Sem.run Tryz.prog (jC (.pointer (some ⟨q,0,none⟩))) w=.ok (.agg x.cells.toArray) w:=by
 have hl:x.cells.length=kA:=rfl;have:=run_loadCells_list (P:=Tryz.prog) w ⟨q,0,none⟩ x.cells (fun j v hj=>by
  have e:(⟨q,0,none⟩:Addr).add j=⟨q,j,none⟩:=by unfold Addr.add;split<;>simp_all
  rw[e];exact h j v hj)
 rw[hl] at this;show Sem.run Tryz.prog (loadVar 36 ⟨q,0,none⟩) w=_;unfold loadVar;exact PU (Go.isAgg 36) (Go.sizeOf 36) (loadCells ⟨q,0,none⟩) _ (xH w) (bC w) this
theorem Ed (w:World) (c0 c1 c2 c3 c4 c5 c6 c7 c8 c9 c10 c11 c12 c13 c14 c15 c16 c17 c18:Value) (k d n f o p q u m sn sd fo fn:Int):
 Sem.run Tryz.prog (Qi (.pointer (some ⟨w.heap.size,0,none⟩)) (.agg #[.int .i64 k,.int .i64 d,.int .i64 n,.int .i64 f,.int .i64 o,.int .i64 p,.int .i64 q,.int .i64 u,.int .i64 m,.int .i64 sn,.int .i64 sd,.slice none 0 0,.slice none 0 0,.slice none 0 0,.slice none 0 0,.int .i64 fo,.int .i64 fn,.slice none 0 0,.slice none 0 0])) (w.alloc (.cells #[c0,c1,c2,c3,c4,c5,c6,c7,c8,c9,c10,c11,c12,c13,c14,c15,c16,c17,c18] 36))=.ok () (w.alloc (.cells #[.int .i64 k,.int .i64 d,.int .i64 n,.int .i64 f,.int .i64 o,.int .i64 p,.int .i64 q,.int .i64 u,.int .i64 m,.int .i64 sn,.int .i64 sd,.slice none 0 0,.slice none 0 0,.slice none 0 0,.slice none 0 0,.int .i64 fo,.int .i64 fn,.slice none 0 0,.slice none 0 0] 36)):=by
 have h:(w.alloc (.cells #[c0,c1,c2,c3,c4,c5,c6,c7,c8,c9,c10,c11,c12,c13,c14,c15,c16,c17,c18] 36)).heap[w.heap.size]?=some (.cells #[c0,c1,c2,c3,c4,c5,c6,c7,c8,c9,c10,c11,c12,c13,c14,c15,c16,c17,c18] 36 (0,0)):=heap_alloc_last _ _;have:=bQ h rfl ⟨k,d,n,f,o,p,q,u,m,sn,sd,ak,ak,ak,ak,fo,fn,ak,ak⟩;rw[show (w.alloc (.cells #[.int .i64 k,.int .i64 d,.int .i64 n,.int .i64 f,.int .i64 o,.int .i64 p,.int .i64 q,.int .i64 u,.int .i64 m,.int .i64 sn,.int .i64 sd,.slice none 0 0,.slice none 0 0,.slice none 0 0,.slice none 0 0,.int .i64 fo,.int .i64 fn,.slice none 0 0,.slice none 0 0] 36))=(w.alloc (.cells #[c0,c1,c2,c3,c4,c5,c6,c7,c8,c9,c10,c11,c12,c13,c14,c15,c16,c17,c18] 36)).setRow w.heap.size #[.int .i64 k,.int .i64 d,.int .i64 n,.int .i64 f,.int .i64 o,.int .i64 p,.int .i64 q,.int .i64 u,.int .i64 m,.int .i64 sn,.int .i64 sd,.slice none 0 0,.slice none 0 0,.slice none 0 0,.slice none 0 0,.int .i64 fo,.int .i64 fn,.slice none 0 0,.slice none 0 0] from (World.setRow_alloc_new w _ _ 36).symm];exact this
theorem au {W w:World} {A:aA} {q:Nat} {x:Ac} (h:Sat W w (sep (blk q (.cells x.cells.toArray 36 (0,0))) A)) (i:Nat) (v:Value) (hv:x.cells[i]?=some v):w.cell? ⟨q,i,none⟩=some v∧w.frozen? ⟨q,i,none⟩=false:=
 ⟨by rw[h.cell i];simpa using hv,h.aG i⟩
theorem Bv {W w:World} {A:aA} {q:Nat} {x:Ac} (h:Sat W w (sep (blk q (.cells x.cells.toArray 36 (0,0))) A)):
 Sem.run Tryz.prog (jC (.pointer (some ⟨q,0,none⟩))) w=.ok (.agg #[.int .i64 x.k,.int .i64 x.d,.int .i64 x.n,.int .i64 x.f,.int .i64 x.o,.int .i64 x.p,.int .i64 x.q,.int .i64 x.u,.int .i64 x.m,.int .i64 x.sn,.int .i64 x.sd,.slice x.td.a x.td.n x.td.c,.slice x.tc.a x.tc.n x.tc.c,.slice x.cl.a x.cl.n x.cl.c,.slice x.ea.a x.ea.n x.ea.c,.int .i64 x.fo,.int .i64 x.fn,.slice x.fi.a x.fi.n x.fi.c,.slice x.fk.a x.fk.n x.fk.c]) w:=
 jU fun i v hv=>(au h i v hv).1
end Go.Proofs.YthfmaclnccdcbaaGreatDoor
namespace PA
open Go Go.RowKit
def NH (l:List Ea):List Value:=l.flatMap fun e=>[Value.int .i64 e.file,.int .i64 e.day]
theorem Qd {I:Mem}:∀{vs:List Value} {xs:List Ea},(MQ.rows 2).rel I vs xs↔vs=NH xs:=by
 intro vs xs;constructor
 ·rintro⟨css,rfl,h⟩
  induction xs generalizing css with
  | nil=>cases css with
   | nil=>rfl
   | cons c l=>exact h.elim
  | cons x xs ih=>cases css with
   | nil=>exact h.elim
   | cons c l=>
    obtain⟨⟨h1,-⟩,h2⟩:=h;have e:c=[.int .i64 x.file,.int .i64 x.day]:=h1;subst e;have:=ih l h2;rw[List.flatten_cons,this];rfl
 ·rintro rfl
  refine⟨xs.map fun e=>[Value.int .i64 e.file,.int .i64 e.day],by unfold NH;rw[List.flatMap_def],?_⟩
  induction xs with
  | nil=>trivial
  | cons x xs ih=>exact⟨⟨rfl,rfl⟩,ih⟩
theorem WR (l:List Ea):(NH l).length=l.length*2:=by
 unfold NH
 induction l with
 | nil=>rfl
 | cons x l ih=>rw[List.flatMap_cons,dD,ih,List.length_cons];simp;omega
theorem WS (l:List Ea):∀u∈NH l,u.oneCell'=true:=by
 intro u hu;unfold NH at hu;obtain⟨e,-,he⟩:=List.mem_flatMap.1 hu;simp only[List.mem_cons,List.not_mem_nil,or_false] at he;rcases he with rfl|rfl<;>rfl
theorem WQ (a b:List Ea):NH (a++b)=NH a++NH b:=by unfold NH;rw[List.flatMap_append]
end PA
namespace Go.Proofs.YthfmaclnccdcbaaGreatDoor
open Go.RowKit PA
theorem xE:(Tryz.prog.info? 93).map (fun i=>(i.zero,i.size,i.bytes))=some (some (.agg #[.int .i64 0,.int .i64 0]),2,16):=by kernel_rfl
theorem Xf:(Tryz.prog.info? 91).map (fun i=>(i.zero,i.size,i.bytes))=some (some (.agg #[.slice none 0 0,.int .i64 0,.int .i64 0,.slice none 0 0,.slice none 0 0]),5,88):=by kernel_rfl
theorem Uw:(Tryz.prog.info? 3).map (fun i=>(i.zero,i.size,i.bytes))=some (some (.int .i64 0),1,8):=by kernel_rfl
def Ym (n:Nat) (p:Array (Nat×Value)):Sem Value:=Instr.buildSlice 27 n p
theorem BP (n:Nat) (p:Array (Nat×Value)):Instr.buildSlice 27 n p=Ym n p:=rfl
theorem bsFmO1 (w:World) (c0 c1 c2 c3:Value):(Ym 1 #[(0,.agg #[c0,c1,c2,c3])]).run Tryz.prog w=.ok (.slice (some ⟨w.heap.size,0,none⟩) 1 1) (w.alloc (.cells #[c0,c1,c2,c3] 34)):=by
 obtain⟨i,h1,h2,h3,h4⟩:=info_parts iF;exact run_buildSlice w 27 34 1 _ _ i _ Tryz.underlying27 h1 h2 (by rw[h3];omega) (by rw[h3];omega) (by rw[h3];kernel_rfl)
def Yl (n:Nat) (p:Array (Nat×Value)):Sem Value:=Instr.buildSlice 28 n p
theorem BO (n:Nat) (p:Array (Nat×Value)):Instr.buildSlice 28 n p=Yl n p:=rfl
theorem bsClO1 (w:World) (c0 c1 c2 c3 c4:Value):(Yl 1 #[(0,.agg #[c0,c1,c2,c3,c4])]).run Tryz.prog w=.ok (.slice (some ⟨w.heap.size,0,none⟩) 1 1) (w.alloc (.cells #[c0,c1,c2,c3,c4] 91)):=by
 obtain⟨i,h1,h2,h3,h4⟩:=info_parts Xf;exact run_buildSlice w 28 91 1 _ _ i _ Tryz.underlying28 h1 h2 (by rw[h3];omega) (by rw[h3];omega) (by rw[h3];kernel_rfl)
def bsEO (n:Nat) (p:Array (Nat×Value)):Sem Value:=Instr.buildSlice 31 n p
theorem EH (n:Nat) (p:Array (Nat×Value)):Instr.buildSlice 31 n p=bsEO n p:=rfl
theorem bsEO0 (w:World):(bsEO 0 #[]).run Tryz.prog w=.ok (.slice (some ⟨w.heap.size,0,none⟩) 0 0) (w.alloc (.cells #[] 93)):=by
 obtain⟨i,h1,h2,h3,h4⟩:=info_parts xE;show (Instr.buildSlice 31 0 #[]).run Tryz.prog w=_;simp[Instr.buildSlice,run_underlying Tryz.underlying31,sizeOf,typeInfo,h1,newRow,Instr.fill];have e:∀g:Nat→Value,(Array.range 0).map g=#[]:=fun g=>Array.eq_empty_of_size_eq_zero (by simp)
 rw[e]
theorem bsEO2 (w:World) (c0 c1 c2 c3:Value):(bsEO 2 #[(0,.agg #[c0,c1]),(1,.agg #[c2,c3])]).run Tryz.prog w=.ok (.slice (some ⟨w.heap.size,0,none⟩) 2 2) (w.alloc (.cells #[c0,c1,c2,c3] 93)):=by
 obtain⟨i,h1,h2,h3,h4⟩:=info_parts xE;exact run_buildSlice w 31 93 2 _ _ i _ Tryz.underlying31 h1 h2 (by rw[h3];omega) (by rw[h3];omega) (by rw[h3];kernel_rfl)
def bsIO (n:Nat) (p:Array (Nat×Value)):Sem Value:=Instr.buildSlice 22 n p
theorem EI (n:Nat) (p:Array (Nat×Value)):Instr.buildSlice 22 n p=bsIO n p:=rfl
theorem bsIO1 (w:World) (c0:Int):(bsIO 1 #[(0,.int .i64 c0)]).run Tryz.prog w=.ok (.slice (some ⟨w.heap.size,0,none⟩) 1 1) (w.alloc (.cells #[.int .i64 c0] 3)):=by
 obtain⟨i,h1,h2,h3,h4⟩:=info_parts Uw;exact run_buildSlice w 22 3 1 _ _ i _ Tryz.underlying22 h1 h2 (by rw[h3];omega) (by rw[h3];omega) (by rw[h3];kernel_rfl)
attribute [local go_sem ↓] dw dK bC BP BO EI EH
attribute [local go_sem] bsFmO1 bsClO1 bsIO1 bsEO0 bsEO2
set_option maxRecDepth 100000 in
set_option maxHeartbeats 16000000 in
theorem LQ {W w:World} {A:aA} {I:Mem} (z:Ac) (x:Pa) (how b:Int) (hA:mM I z x) (hh:iT how) (_hb:iT b) (hel:x.ea.length≤1000) (h:Sat W w (sep (kn I) A)):
 Calls Tryz.prog 15 #[.agg z.cells.toArray,.int .i64 how,.int .i64 b] w fun e w'=>∃(z':Ac) (J:Mem),e=.returned (.agg z'.cells.toArray)∧Mem.le I J∧mM J z' (vO x (iy how 14) b)∧Sat W w' (sep (kn J) A):=by
 have h1:=(h.alloc (.cells z.cells.toArray 36)).alloc (.cells #[.int .i64 0,.int .i64 0,.int .i64 0,.int .i64 0,.int .i64 0,.int .i64 0,.int .i64 0,.int .i64 0,.int .i64 0,.int .i64 0,.int .i64 0,.slice none 0 0,.slice none 0 0,.slice none 0 0,.slice none 0 0,.int .i64 0,.int .i64 0,.slice none 0 0,.slice none 0 0] 36);rw[World.size_alloc] at h1;obtain⟨B,hB⟩:=ay (w.heap.size);obtain⟨w1,hw1⟩:=ay ((w.alloc (.cells z.cells.toArray 36)).alloc (.cells #[.int .i64 0,.int .i64 0,.int .i64 0,.int .i64 0,.int .i64 0,.int .i64 0,.int .i64 0,.int .i64 0,.int .i64 0,.int .i64 0,.int .i64 0,.slice none 0 0,.slice none 0 0,.slice none 0 0,.slice none 0 0,.int .i64 0,.int .i64 0,.slice none 0 0,.slice none 0 0] 36));rw[←hB,←hw1] at h1;have h1:Sat W w1 (sep (blk (B+1) (.cells Ac.zero.cells.toArray 36 (0,0))) (sep (blk B (.cells z.cells.toArray 36 (0,0))) (sep (kn I) A))):=h1;have HB:=ah (And.intro hB hw1);have har:=oM how 14 w1 hh.1 hh.2 (by omega) (by omega);have hlt:=nJ how 14 (by omega);obtain⟨r,hr⟩:=ay (iy how 14);rw[←hr] at har hlt ⊢;have HAR:=ah har;have h2:Sat W w1 (sep (blk B (.cells z.cells.toArray 36 (0,0))) (sep (blk (B+1) (.cells Ac.zero.cells.toArray 36 (0,0))) (sep (kn I) A))):=bT h1;have H2:=ah h2;have HA:=ah hA;have O7:=ah hlt;have HEL:=ah hel;obtain⟨Po,dR⟩:∃P:Ending→World→Prop,P=fun e w'=>∃(z':Ac) (J:Mem),e=.returned (.agg z'.cells.toArray)∧Mem.le I J∧mM J z' (vO x r b)∧Sat W w' (sep (kn J) A):=⟨_,rfl⟩
 rw[←dR];have bK:=ah dR;clear hA hh _hb hel h h1 h2 hB hw1 har hlt hr dR
 go_enter Tryz.func15,Tryz.ntmps15
 go_upto_region 1 with (fail)
 rw[←HB.out.1,←HB.out.2]
 go_wp2_with fail
 refine HAR.out.mono ?_;rintro e w2 ⟨rfl,rfl⟩;clear HAR HB
 go_upto_block 0 with (fail)
 go_cut [] from 9 to 80 (fun wx=>∃(z':Ac) (J:Mem),Hid (Mem.le I J∧mM J z' (vO x r b)∧Sat W wx (sep (blk B (.cells z'.cells.toArray 36 (0,0))) (sep (blk (B+1) (.cells Ac.zero.cells.toArray 36 (0,0))) (sep (kn J) A)))))
 case first=>
  as_aux_lemma=>
  rcases (show r=0∨r=1∨r=2∨r=3∨r=4∨r=5∨r=6∨r=7∨r=8∨r=9∨r=10∨r=11∨r=12∨r=13 by have:=O7.out;omega) with rfl|rfl|rfl|rfl|rfl|rfl|rfl|rfl|rfl|rfl|rfl|rfl|rfl|rfl
  ·as_aux_lemma=>
   obtain⟨q1,q2⟩:=au H2.out 0 _ rfl;have h3:=H2.out.setCell 0 (.int .i64 b);have H3:=ah h3;clear h3
   go_wp2
   go_meet
   case rel=>
    have hA:=HA.out;exact⟨{z with k:=b},I,ah ⟨Mem.le_refl _,⟨rfl,hA.d,hA.n,hA.f,hA.o,hA.p,hA.q,hA.u,hA.m,hA.sn,hA.sd,hA.td,hA.tc,hA.cl,hA.ea,hA.fx⟩,H3.out⟩⟩
  ·as_aux_lemma=>
   obtain⟨q1,q2⟩:=au H2.out 1 _ rfl;have h3:=H2.out.setCell 1 (.int .i64 b);have H3:=ah h3;clear h3
   go_wp2
   go_meet
   case rel=>
    have hA:=HA.out;exact⟨{z with d:=b},I,ah ⟨Mem.le_refl _,⟨hA.k,rfl,hA.n,hA.f,hA.o,hA.p,hA.q,hA.u,hA.m,hA.sn,hA.sd,hA.td,hA.tc,hA.cl,hA.ea,hA.fx⟩,H3.out⟩⟩
  ·as_aux_lemma=>
   obtain⟨q1,q2⟩:=au H2.out 2 _ rfl;have h3:=H2.out.setCell 2 (.int .i64 b);have H3:=ah h3;clear h3
   go_wp2
   go_meet
   case rel=>
    have hA:=HA.out;exact⟨{z with n:=b},I,ah ⟨Mem.le_refl _,⟨hA.k,hA.d,rfl,hA.f,hA.o,hA.p,hA.q,hA.u,hA.m,hA.sn,hA.sd,hA.td,hA.tc,hA.cl,hA.ea,hA.fx⟩,H3.out⟩⟩
  ·as_aux_lemma=>
   obtain⟨q1,q2⟩:=au H2.out 3 _ rfl;have h3:=H2.out.setCell 3 (.int .i64 b);have H3:=ah h3;clear h3
   go_wp2
   go_meet
   case rel=>
    have hA:=HA.out;exact⟨{z with f:=b},I,ah ⟨Mem.le_refl _,⟨hA.k,hA.d,hA.n,rfl,hA.o,hA.p,hA.q,hA.u,hA.m,hA.sn,hA.sd,hA.td,hA.tc,hA.cl,hA.ea,hA.fx⟩,H3.out⟩⟩
  ·as_aux_lemma=>
   obtain⟨q1,q2⟩:=au H2.out 4 _ rfl;have h3:=H2.out.setCell 4 (.int .i64 b);have H3:=ah h3;clear h3
   go_wp2
   go_meet
   case rel=>
    have hA:=HA.out;exact⟨{z with o:=b},I,ah ⟨Mem.le_refl _,⟨hA.k,hA.d,hA.n,hA.f,rfl,hA.p,hA.q,hA.u,hA.m,hA.sn,hA.sd,hA.td,hA.tc,hA.cl,hA.ea,hA.fx⟩,H3.out⟩⟩
  ·as_aux_lemma=>
   obtain⟨q1,q2⟩:=au H2.out 5 _ rfl;have h3:=H2.out.setCell 5 (.int .i64 b);have H3:=ah h3;clear h3
   go_wp2
   go_meet
   case rel=>
    have hA:=HA.out;exact⟨{z with p:=b},I,ah ⟨Mem.le_refl _,⟨hA.k,hA.d,hA.n,hA.f,hA.o,rfl,hA.q,hA.u,hA.m,hA.sn,hA.sd,hA.td,hA.tc,hA.cl,hA.ea,hA.fx⟩,H3.out⟩⟩
  ·as_aux_lemma=>
   obtain⟨q1,q2⟩:=au H2.out 6 _ rfl;have h3:=H2.out.setCell 6 (.int .i64 b);have H3:=ah h3;clear h3
   go_wp2
   go_meet
   case rel=>
    have hA:=HA.out;exact⟨{z with q:=b},I,ah ⟨Mem.le_refl _,⟨hA.k,hA.d,hA.n,hA.f,hA.o,hA.p,rfl,hA.u,hA.m,hA.sn,hA.sd,hA.td,hA.tc,hA.cl,hA.ea,hA.fx⟩,H3.out⟩⟩
  ·as_aux_lemma=>
   obtain⟨q1,q2⟩:=au H2.out 7 _ rfl;have h3:=H2.out.setCell 7 (.int .i64 b);have H3:=ah h3;clear h3
   go_wp2
   go_meet
   case rel=>
    have hA:=HA.out;exact⟨{z with u:=b},I,ah ⟨Mem.le_refl _,⟨hA.k,hA.d,hA.n,hA.f,hA.o,hA.p,hA.q,rfl,hA.m,hA.sn,hA.sd,hA.td,hA.tc,hA.cl,hA.ea,hA.fx⟩,H3.out⟩⟩
  ·as_aux_lemma=>
   obtain⟨q1,q2⟩:=au H2.out 8 _ rfl;have h3:=H2.out.setCell 8 (.int .i64 b);have H3:=ah h3;clear h3
   go_wp2
   go_meet
   case rel=>
    have hA:=HA.out;exact⟨{z with m:=b},I,ah ⟨Mem.le_refl _,⟨hA.k,hA.d,hA.n,hA.f,hA.o,hA.p,hA.q,hA.u,rfl,hA.sn,hA.sd,hA.td,hA.tc,hA.cl,hA.ea,hA.fx⟩,H3.out⟩⟩
  ·as_aux_lemma=>
   obtain⟨q1,q2⟩:=au H2.out 9 _ rfl;obtain⟨q3,q4⟩:=au H2.out 10 _ rfl;have h3:=(H2.out.setCell 9 (.int .i64 b)).setCell 10 (.int .i64 2);have H3:=ah h3;clear h3
   go_wp2
   go_meet
   case rel=>
    have hA:=HA.out;exact⟨{z with sn:=b,sd:=2},I,ah ⟨Mem.le_refl _,⟨hA.k,hA.d,hA.n,hA.f,hA.o,hA.p,hA.q,hA.u,hA.m,rfl,rfl,hA.td,hA.tc,hA.cl,hA.ea,hA.fx⟩,H3.out⟩⟩
  ·as_aux_lemma=>
   obtain⟨J,hle,hr,h3⟩:=rW (R:=rF) (k:=4) (show Sat W w1 (sep (kn I) (sep (blk B (.cells z.cells.toArray 36 (0,0))) (sep (blk (B+1) (.cells Ac.zero.cells.toArray 36 (0,0))) A))) from H2.out.p2) [.int .i64 b,.int .i64 0,.slice none 0 0,.slice none 0 0] [.mk b 0 [] []] 34 (gZ (Ba I b 0) rfl) (by simp[maxLen]);have h4:Sat W (w1.alloc (.cells #[.int .i64 b,.int .i64 0,.slice none 0 0,.slice none 0 0] 34)) (sep (blk B (.cells z.cells.toArray 36 (0,0))) (sep (blk (B+1) (.cells Ac.zero.cells.toArray 36 (0,0))) (sep (kn J) A))):=by
    have h9:=h3;simpa only[aF,aC,aj] using h9
   obtain⟨q1,q2⟩:=au h4 11 _ rfl;obtain⟨q3,q4⟩:=au h4 12 _ rfl;have h5:=(h4.setCell 11 (.slice (some ⟨w1.heap.size,0,none⟩) 1 1)).setCell 12 (.slice none 0 0);have H5:=ah (And.intro (And.intro hle hr) h5);clear h3 h4 h5 hr hle
   go_wp2
   go_meet
   case rel=>
    have hA:=HA.out.mono H5.out.1.1;exact⟨{z with td:=⟨some ⟨w1.heap.size,0,none⟩,1,1⟩,tc:=ak},J,ah ⟨H5.out.1.1,⟨hA.k,hA.d,hA.n,hA.f,hA.o,hA.p,hA.q,hA.u,hA.m,hA.sn,hA.sd,H5.out.1.2,aB _ _ _,hA.cl,hA.ea,hA.fx⟩,H5.out.2⟩⟩
  ·as_aux_lemma=>
   have hp:=show Sat W w1 (sep (kn I) (sep (blk B (.cells z.cells.toArray 36 (0,0))) (sep (blk (B+1) (.cells Ac.zero.cells.toArray 36 (0,0))) A))) from H2.out.p2;obtain⟨J1,hle1,hr1,h3⟩:=Xl hp [b] 3 (by simp[maxLen]);obtain⟨J,hle,hr,h4⟩:=rW (R:=kK) (k:=5) h3 [.slice (some ⟨w1.heap.size,0,none⟩) 1 1,.int .i64 0,.int .i64 0,.slice none 0 0,.slice none 0 0] [⟨[b],Fm.zero⟩] 91 (gZ ⟨_,_,_,rfl,hr1,dQ _⟩ rfl) (by simp[maxLen]);rw[World.size_alloc] at hr;have hle':=eH hle1 hle;have h5:Sat W ((w1.alloc (.cells #[.int .i64 b] 3)).alloc (.cells #[.slice (some ⟨w1.heap.size,0,none⟩) 1 1,.int .i64 0,.int .i64 0,.slice none 0 0,.slice none 0 0] 91)) (sep (blk B (.cells z.cells.toArray 36 (0,0))) (sep (blk (B+1) (.cells Ac.zero.cells.toArray 36 (0,0))) (sep (kn J) A))):=by
    have h9:Sat W ((w1.alloc (.cells #[.int .i64 b] 3)).alloc (.cells #[.slice (some ⟨w1.heap.size,0,none⟩) 1 1,.int .i64 0,.int .i64 0,.slice none 0 0,.slice none 0 0] 91)) _:=h4;simpa only[aF,aC,aj] using h9
   obtain⟨q1,q2⟩:=au h5 13 _ rfl;have h6:=h5.setCell 13 (.slice (some ⟨w1.heap.size+1,0,none⟩) 1 1);have H6:=ah (And.intro (And.intro hle' hr) h6);clear h3 h4 h5 h6 hr hr1 hle hle1 hle' hp
   go_wp2
   go_meet
   case rel=>
    have hA:=HA.out.mono H6.out.1.1;exact⟨{z with cl:=⟨some ⟨w1.heap.size+1,0,none⟩,1,1⟩},J,ah ⟨H6.out.1.1,⟨hA.k,hA.d,hA.n,hA.f,hA.o,hA.p,hA.q,hA.u,hA.m,hA.sn,hA.sd,hA.td,hA.tc,H6.out.1.2,hA.ea,hA.fx⟩,H6.out.2⟩⟩
  ·as_aux_lemma=>
   obtain⟨a,cc,vs,ez,hsw,hca,hrow⟩:=HA.out.ea;simp only[Sv.v,List.cons.injEq,Value.slice.injEq,and_true] at ez;have hvs:=Qd.1 hrow;subst hvs;obtain⟨rfl,hn,rfl⟩:=ez;have h3:=((show Sat W w1 (sep (blk B (.cells z.cells.toArray 36 (0,0))) (sep (blk (B+1) (.cells Ac.zero.cells.toArray 36 (0,0))) (sep (kn I) A))) from H2.out).alloc (.cells #[] 93)).lT (E:=93) 0 0 2 [] rfl (by omega) (by unfold maxLen;omega) rfl rfl;have hsrc:=fun b hb=>P6 (Bc hca H2.out.p2.ext b hb) (.cells #[] 93)
   have q1:=(au h3.p1 14 _ rfl).1;have hn3:z.ea.n≤1000:=by have:=HEL.out;omega
   have hn3z:(z.ea.n:Int)≤1000:=by omega
   have HN:=ah hn;have HS:=ah (And.intro h3 (And.intro hsrc (show z.ea.a=none→z.ea.n=0 from fun e=>by have:=hsw.1;have:=hsw.2.2 e;omega)));have HLN:Hid ((NH x.ea).length=z.ea.n*2):=ah (by rw[WR,hn]);have Ag:=ah (fun (w:World)=>gW w [.int .i64 b,.int .i64 5,.int .i64 4095,.int .i64 b] 93);clear h3 hsrc hn hca hsw hrow
   go_wp2_with (at_builtin;go_loud (refine aH rfl _ _ 31 rfl 93 2 16 _ Tryz.underlying31 xE rfl rfl HS.out.1 rfl (NH x.ea) HLN.out HS.out.2.2 HS.out.2.1 (WS _) (by omega) (by unfold maxLen;omega) ?_))
   intro a2 c2 w3 h4
   try simp only[Nat.zero_add,List.nil_append] at h4
   have q2:=(au h4.p1 14 _ rfl).1;have h5:=h4.fO (.cells #[.int .i64 b,.int .i64 5,.int .i64 4095,.int .i64 b] 93);have H5:=ah h5;clear h4 h5 q1
   go_wp2_with (at_builtin;go_loud (refine aH rfl _ _ 31 rfl 93 2 16 _ Tryz.underlying31 xE rfl rfl H5.out rfl [.int .i64 b,.int .i64 5,.int .i64 4095,.int .i64 b] rfl (by simp) (by intro b' hb;cases hb;exact Ag.out _) (by simp[Value.oneCell']) (by omega) (by unfold maxLen;omega) ?_))
   intro a3 c3 w4 h6;obtain⟨q3,q4⟩:=au h6.p1 14 _ rfl;have hw2:=h6.fJ;have h7:=(h6.p1.setCell 14 (.slice a3 (z.ea.n+2) c3)).p1;have H7:=ah (And.intro hw2 h7);clear h6 h7 hw2 q2
   go_wp2
   go_meet
   case rel=>
    have h8:=H7.out.2.dV;obtain⟨J,hle,hJ,h9⟩:=(show Sat W _ (sep (U0 a3 (NH x.ea++[.int .i64 b,.int .i64 5,.int .i64 4095,.int .i64 b])) (sep (kn I) (sep (blk B (.cells (z.cells.toArray.setIfInBounds 14 (.slice a3 (z.ea.n+2) c3)) 36 (0,0))) (sep (blk (B+1) (.cells Ac.zero.cells.toArray 36 (0,0))) A)))) from bT h8).learn;have hA:=HA.out.mono hle;have hln:(vO x 12 b).ea.length=z.ea.n+2:=by
     show (x.ea++[Ea.mk b 5,Ea.mk 4095 b]).length=_;rw[dD,←HN.out];rfl
    refine⟨{z with ea:=⟨a3,z.ea.n+2,c3⟩},J,ah ⟨hle,⟨hA.k,hA.d,hA.n,hA.f,hA.o,hA.p,hA.q,hA.u,hA.m,hA.sn,hA.sd,hA.td,hA.tc,hA.cl,?_,hA.fx⟩,?_⟩⟩
    ·refine⟨a3,c3,NH x.ea++[.int .i64 b,.int .i64 5,.int .i64 4095,.int .i64 b],by rw[hln];rfl,by rw[hln];exact H7.out.1,hJ,Qd.2 ?_⟩
     show _=NH (x.ea++[Ea.mk b 5,Ea.mk 4095 b]);rw[WQ];rfl
    ·exact h9.p2.p2
  ·as_aux_lemma=>
   obtain⟨q1,q2⟩:=au H2.out 15 _ rfl;obtain⟨q3,q4⟩:=au H2.out 16 _ rfl;obtain⟨q5,q6⟩:=au H2.out 17 _ rfl;obtain⟨q7,q8⟩:=au H2.out 18 _ rfl;have h3:=(((H2.out.setCell 15 (.int .i64 b)).setCell 16 (.int .i64 1)).setCell 17 (.slice none 0 0)).setCell 18 (.slice none 0 0);have H3:=ah h3;clear h3
   go_wp2
   go_meet
   case rel=>
    have hA:=HA.out;exact⟨{z with fo:=b,fn:=1,fi:=ak,fk:=ak},I,ah ⟨Mem.le_refl _,⟨hA.k,hA.d,hA.n,hA.f,hA.o,hA.p,hA.q,hA.u,hA.m,hA.sn,hA.sd,hA.td,hA.tc,hA.cl,hA.ea,Ba I b 1⟩,H3.out⟩⟩
 case rest=>
  as_aux_lemma=>
  obtain⟨z',J,HC⟩:=hcut;have hld:=jU (fun i v hv=>(au HC.out.2.2 i v hv).1);have hst:=bQ HC.out.2.2.p1.aO rfl z';have h9:=HC.out.2.2.p1.setRow z'.cells.toArray;obtain⟨w5,hw5⟩:=ay (wc.setRow (B+1) z'.cells.toArray);rw[←hw5] at hst h9;have abB:=jU (fun i v hv=>(au h9 i v hv).1);have hres:=gJ h9;have H9:=ah h9;clear h9 hw5
  go_wp2
  rw[bK.out];exact bodyPost_ret (v:=.agg z'.cells.toArray) (by simp[results,Tryz.results15,go_sem,↓bC,hres]) rfl ⟨z',J,rfl,HC.out.1,HC.out.2.1,H9.out.drop.drop⟩
end Go.Proofs.YthfmaclnccdcbaaGreatDoor
namespace Go.Proofs.YthfmaclnccdcbaaGreatDoor
open Go.RowKit PA
theorem Fa {w:World} {g o:Nat} {x:Ac} (h:∀j v,x.cells[j]?=some v→w.cell? ⟨g,o+j,none⟩=some v):
 Sem.run Tryz.prog (jC (.pointer (some ⟨g,o,none⟩))) w=.ok (.agg x.cells.toArray) w:=by
 have hl:x.cells.length=kA:=rfl;have:=run_loadCells_list (P:=Tryz.prog) w ⟨g,o,none⟩ x.cells (fun j v hj=>by
  have e:(⟨g,o,none⟩:Addr).add j=⟨g,o+j,none⟩:=by unfold Addr.add;split<;>simp_all
  rw[e];exact h j v hj)
 rw[hl] at this;show Sem.run Tryz.prog (loadVar 36 ⟨g,o,none⟩) w=_;unfold loadVar;exact PU (Go.isAgg 36) (Go.sizeOf 36) (loadCells ⟨g,o,none⟩) _ (xH w) (bC w) this
theorem V8 {J:Mem} {a:Option Addr} {xs:List Ac} {i:Nat} {z:Ac} (hc:iL a (dF xs) J) (hz:xs[i]?=some z):∃b o,a=some ⟨b,o,none⟩∧∀w',Ext J w'→Sem.run Tryz.prog (jC (.pointer (some ⟨b,o+i*19,none⟩))) w'=.ok (.agg z.cells.toArray) w':=by
 obtain⟨hi,rfl⟩:=List.getElem?_eq_some_iff.1 hz;have hne2:dF xs≠[]:=fun e=>by
  have h1:=congrArg List.length e;rw[lZ,List.length_nil] at h1;omega
 obtain⟨b,o,rfl,hcell⟩:=jk hc hne2;refine⟨b,o,rfl,fun w' he=>Fa fun j v hj=>?_⟩;have hjl:j<19:=(List.getElem?_eq_some_iff.1 hj).1;have h2:=hcell w' he (i*19+j) v (by rw[Nk xs i hi j hjl];exact hj)
 rwa [show o+i*19+j=o+(i*19+j) by omega]
end Go.Proofs.YthfmaclnccdcbaaGreatDoor

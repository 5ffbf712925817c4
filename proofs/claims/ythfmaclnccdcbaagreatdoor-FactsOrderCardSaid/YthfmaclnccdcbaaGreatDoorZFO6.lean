/- Part of a proof. -/
import Derived.Test.YthfmaclnccdcbaaGreatDoorZFO5
import Derived.Deep.CutBlock
import Derived.Deep.WholeRow
import Derived.Sort.CutIn
import Derived.Test.YthfmaclnccdcbaaGreatDoorZFO13
namespace Go.Proofs.YthfmaclnccdcbaaGreatDoor
open Go.RowKit PA
set_option maxRecDepth 100000 in
set_option maxHeartbeats 4000000 in
theorem Ol {W w:World} {A A0:aB} {D:Ac→Ac→Prop} {c:Ac→Ac→Int} {g N:Nat} {f:Nat→Ac} {tl:List Value} (hT:Total c) (hC:Az W A0 D c) (hD:DF D N f) (hN:N<40) (cp:Nat)
 (h:Sat W w (sep (iC g N f tl) (sep A0 A))):
 Calls Tryz.prog 154 #[.slice (some ⟨g,0,none⟩) N cp,.int .i64 N,.func (.func 21) #[] #[]] w fun e w'=>e=.returned (.tuple #[])∧∃f',Sw 0 N f f'∧eU c 0 N f'∧Sat W w' (sep (iC g N f' tl) (sep A0 A)):=by
 have HI:Hid (∀(a b:Nat) (f':Nat→Ac) (w':World),a≤b→b≤N→DF D N f'→Sat W w' (sep (iC g N f' tl) (sep A0 A))→Calls Tryz.prog 194 #[.slice (some ⟨g,0,none⟩) N cp,.int .i64 a,.int .i64 b,.func (.func 21) #[] #[]] w' fun e w'=>∃f'',e=.returned (.tuple #[])∧Sw a b f' f''∧eU c a b f''∧Sat W w' (sep (iC g N f'' tl) (sep A0 A))):=
  ah fun a b f' w' q1 q2 q3 q4=>WS hT hC q3 (by omega) cp a b q1 q2 q4
 have HY:Hid (∀(a m b:Nat) (f':Nat→Ac) (w':World),a<m→m<b→b≤N→eU c a m f'→eU c m b f'→DF D N f'→Sat W w' (sep (iC g N f' tl) (sep A0 A))→AO W A0 A c g N cp tl a m b f' w'):=
  ah fun a m b f' w' q1 q2 q3 q4 q5 q6 q7=>Ot hT hC (by omega) cp (b-a) a m b f' w' (Nat.le_refl _) q1 q2 q3 q4 q5 q6 q7
 have HD:=ah hD;have H:=ah h;clear hT hC hD h;go_enter Tryz.func154,Tryz.ntmps154;go_wp2;go_loopw [7,8] (fun av bv wr=>∃(f':Nat→Ac) (s:Nat),av=.int .i64 s∧bv=.int .i64 ((s+20:Nat):Int)∧(s=0∨s=20)∧s≤N∧Hid (Sw 0 s f f'∧eU c 0 s f')∧Sat W wr (sep (iC g N f' tl) (sep A0 A))) (fun av _ _=>40-(intOf av).toNat)
 case atStart=>exact⟨f,0,rfl,rfl,.inl rfl,by omega,ah ⟨.refl,fun p q p1 p2 p3=>by omega⟩,H.out⟩
 case round=>
  obtain⟨f1,s,rfl,rfl,hs,hsN,HF1,hS⟩:=hrel;have HS:=ah hS;clear hS;by_cases hb:s+20≤N
  ·obtain rfl:s=0:=by omega
   have hbz:((0+20:Nat):Int)≤(N:Int):=by omega
   have hi:=HI.out 0 20 f1 wr (by omega) (by omega) (HD.out.sw HF1.out.1 (by omega)) HS.out;have HII:=ah hi;clear hi;go_wp2_with fail;refine HII.out.mono ?_;rintro e w3 ⟨f2,rfl,r1,r2,r3⟩;have HR:=ah (aH r1 (aH r2 r3));clear r1 r2 r3 HII;go_wp2_with fail;go_roundw;case rel=>exact⟨f2,20,rfl,rfl,.inr rfl,by omega,ah ⟨(HF1.out.1.mono (Nat.le_refl _) (by omega)).trans HR.out.1,HR.out.2.1⟩,HR.out.2.2⟩
   case measure=>simp[intOf]
  ·have hbz:¬((s+20:Nat):Int)≤(N:Int):=by omega
   have hi:=HI.out s N f1 wr hsN (Nat.le_refl _) (HD.out.sw HF1.out.1 hsN) HS.out;have HII:=ah hi;clear hi HS;go_wp2_with fail;refine HII.out.mono ?_;rintro e w3 ⟨f2,rfl,r1,r2,r3⟩;have k1:eU c 0 s f2:=HF1.out.2.congr fun k p1 p2=>r1.out (.inl p2)
   have k2:Sw 0 N f f2:=(HF1.out.1.mono (Nat.le_refl _) hsN).trans (r1.mono (by omega) (Nat.le_refl _));have HR:=ah (aH k1 (aH k2 r2));have HS:=ah r3;clear r1 r2 r3 HII k1 k2 hbz HF1 H;go_wp2;go_loopw [6] (fun bv wr=>∃(z:Nat) (f':Nat→Ac),bv=.int .i64 z∧((z=20∧f'=f2)∨(z=40∧Hid (Sw 0 N f f'∧eU c 0 N f')))∧Sat W wr (sep (iC g N f' tl) (sep A0 A))) (fun bv _=>40-(intOf bv).toNat)
   case atStart=>exact⟨20,f2,rfl,.inl ⟨rfl,rfl⟩,HS.out⟩
   case round=>
    obtain⟨z,f3,rfl,hz,hS3⟩:=hrel;have KG:=ah hS3;clear hS3 HS;rcases hz with ⟨rfl,rfl⟩|⟨rfl,HZ⟩
    ·by_cases hn:20<N
     ·have abI:s=20:=by omega
      have kk:=HR.out.1;rw[abI] at kk;have hnz:((20:Nat):Int)<(N:Int):=by omega
      have adO:(20:Int)<(N:Int):=by omega
      have ajj:¬(40:Int)≤(N:Int):=by omega
      have hy:=HY.out 0 20 N f3 wr (by omega) hn (Nat.le_refl _) kk (by have k5:=HR.out.2.2;rw[abI] at k5;exact k5) (HD.out.sw HR.out.2.1 (Nat.le_refl _)) KG.out;unfold AO at hy;have HYY:=ah hy;clear hy kk abI hs;go_wp2;go_loopw [7,8] (fun av bv wx=>av=.int .i64 0∧bv=.int .i64 40∧wx=wr) (fun _ _ _=>0)
      case atStart=>exact⟨rfl,by first|rfl|go_num,rfl⟩
      case round=>
       obtain⟨rfl,rfl,rfl⟩:=hrel;go_wp2_with fail;refine HYY.out.mono ?_;rintro e w3 ⟨rfl,f4,r1,r2,r3⟩;have HR4:=ah (aH r1 (aH r2 r3));clear r1 r2 r3 HYY;go_wp2;go_roundw;case rel=>exact⟨40,f4,rfl,.inr ⟨rfl,ah ⟨HR.out.2.1.trans HR4.out.1,HR4.out.2.1⟩⟩,HR4.out.2.2⟩
       case measure=>simp[intOf]
     ·have hnz:¬((20:Nat):Int)<(N:Int):=by omega
      have adO:¬(20:Int)<(N:Int):=by omega
      have hfin:eU c 0 N f3:=by
       rcases hs with e|e
       ·have h6:=HR.out.2.2;rw[e] at h6;exact h6
       ·have h6:=HR.out.1;rw[show s=N by omega] at h6;exact h6
      have XR:=ah hfin;clear hfin;go_wp2;go_end0;exact⟨rfl,f3,HR.out.2.1,XR.out,KG.out⟩
    ·have hnz:¬((40:Nat):Int)<(N:Int):=by omega
     have adO:¬(40:Int)<(N:Int):=by omega
     go_wp2;go_end0;exact⟨rfl,f3,HZ.out.1,HZ.out.2,KG.out⟩
theorem qw:(Tryz.prog.info? 36).map (fun i=>(i.zero,i.size,i.bytes))=some (some (.agg Ac.zero.cells.toArray),19,248):=by kernel_rfl
theorem DV {W w:World} {A:aB} {I:Mem} (b:Addr) (n c:Nat) (xs:List Ac) (hn:xs.length=n) (UW:n≤65536) (hw:Ld (some b) n c) (hc:dF (some b) (bY xs) I) (h:Sat W w (sep (kn I) A)):
 Calls Tryz.prog 108 #[.slice (some b) n c] w fun e w'=>∃a' c',e=.returned (.slice a' n c')∧Sat W w' (sep (aT 36 19 a' n c' (bY xs)) (sep (kn I) A)):=by
 obtain⟨hw1,hw2,hw3⟩:=hw;have hq:=fun w a n c=>Lib.run_eql_slice_nil (P:=Tryz.prog) w 23 36 a n c 0 0 Tryz.underlying23
 have hS:=(h.alloc (.cells #[] 36)).lJ 0 0 19 [] rfl (by omega) (by unfold maxLen;omega) rfl rfl;have hsrc:=CY hc h.ext b rfl;have hc2:=ah (RZ hsrc (.cells #[] 36));have hl:(bY xs).length=n*19:=by rw[kS,hn]
 have h1:=YM xs;obtain⟨vs,hvs⟩:=aC (bY xs);rw[←hvs] at hc2 hl h1 ⊢;have HW2:=ah hw2;have HL:=ah hl;have H1:=ah h1;have aiZ:(n:Int)≤65536:=by omega
 clear hsrc hw1 hw2 hw3 hc hvs hl h1 h hn;go_enter Tryz.func108,Tryz.ntmps108;go_wp2_with (at_builtin;refine aK rfl _ _ 23 rfl 36 19 248 _ Tryz.underlying23 qw rfl rfl hS rfl vs HL.out (by simp) (by intro b' hb;cases hb;exact hc2.out) H1.out (by omega) (by unfold maxLen;omega) ?_)
 intro a' c' w' hS';go_wp2;go_ret;refine⟨a',c',?_,?_⟩
 ·simp
 ·simpa using hS'
theorem NG {W w:World} {A:aB} {a:Option Addr} {n c:Nat} {xs:List Ac} (hn:xs.length=n) (h0:0<n) (h:Sat W w (sep (aT 36 19 a n c (bY xs)) A)):
 ∃g tl,a=some ⟨g,0,none⟩∧n≤c∧c≤maxLen∧(n*19+tl.length=c*19)∧Sat W w (sep (iC g n (fun i=>xs.getD i default) tl) A):=by
 rcases h.iD with ⟨-,rfl,-,-,-⟩|⟨g,cur,rfl,h1,h2,h3,h4,h5,h6⟩
 ·omega
 ·have hle:n*19≤c*19:=Nat.mul_le_mul_right _ h2
  refine⟨g,cur.toList.drop (n*19),rfl,h2,h3,by rw[List.length_drop,Array.length_toList,h4];omega,?_⟩;unfold iC;subst hn;rw[xU,←h5,List.take_append_drop,Array.toArray_toList];exact h6
theorem Ll {W w:World} {A:aB} {g n c:Nat} {f:Nat→Ac} {tl:List Value} (h2:n≤c) (h3:c≤maxLen) (h4:n*19+tl.length=c*19) (h:Sat W w (sep (iC g n f tl) A)):
 Sat W w (sep (aT 36 19 (some ⟨g,0,none⟩) n c (bY ((List.range n).map f))) A):=by
 have hl:(bY ((List.range n).map f)).length=n*19:=by rw[kS];simp
 refine h.lJ n c 19 _ hl h2 h3 (by simp[hl];omega) ?_;show (bY ((List.range n).map f)++tl).take (n*19)=_;rw[←hl,List.take_left]
set_option maxHeartbeats 1000000 in
theorem Uz {W w:World} {A A0:aB} {D:Ac→Ac→Prop} {c:Ac→Ac→Int} {I:Mem} (hT:Total c) (hC:Az W A0 D c) (hsy:∀x y,D x y→D y x) (b:Addr) (n cp:Nat) (xs:List Ac) (hn:xs.length=n) (hD:xs.Pairwise D) (h0:0<n) (UW:n<40)
 (hw:Ld (some b) n cp) (hc:dF (some b) (bY xs) I) (h:Sat W w (sep (kn I) (sep A0 A))):
 Calls Tryz.prog 48 #[.slice (some b) n cp] w fun e w'=>∃ys g c' J,e=.returned (.slice (some ⟨g,0,none⟩) n c')∧ys.Perm xs∧Asc c ys∧Mem.le I J∧n≤c'∧c'≤maxLen∧dF (some ⟨g,0,none⟩) (bY ys) J∧Sat W w' (sep (kn J) (sep A0 A)):=by
 have hcl:=ah (DV b n cp xs hn (by omega) hw hc h);have HN:=ah hn;have HD:Hid (DF D n fun i=>xs.getD i default):=ah (by have:=DF.ZA hsy hD;rw[hn] at this;exact this);have HTC:=ah (aH hT hC);clear hn hD hsy hc hw hT hC h;go_enter Tryz.func48,Tryz.ntmps48;go_wp2_with fail;refine hcl.out.mono ?_;rintro e w2 ⟨a',c',rfl,h2⟩;obtain⟨g,tl,rfl,hc1,hc2,hc3,h3⟩:=NG HN.out h0 h2;have hst:=Ol (A:=sep (kn I) A) HTC.out.1 HTC.out.2 HD.out UW c' (show Sat W w2 (sep (iC g n (fun i=>xs.getD i default) tl) (sep A0 (sep (kn I) A))) by simpa only[aA,au,aj] using h3);have HST:=ah hst;have Cc:=ah (aH hc1 (aH hc2 hc3));clear hcl h2 h3 hst hc1 hc2 hc3;go_wp2_with (first|(go_at_call 154;refine HST.out.mono ?_)|go_in)
 rintro e w4 ⟨rfl,f',r1,r2,r3⟩;have h5:=(Ll Cc.out.1 Cc.out.2.1 Cc.out.2.2 r3).eF;have hp:=r1.perm;have hl:=r2.list;have YC:=ah (aH hp hl);have HF:Hid (Sat W w4 (sep (U0 (some ⟨g,0,none⟩) (bY ((List.range n).map f'))) (sep (kn I) (sep A0 A)))):=ah (dI h5);clear r1 r2 r3 h5 hp hl HST;go_wp2
 first
 | (go_end0;go_wp2;go_ret)
 | go_ret
 obtain⟨J,hle,hJ,hS⟩:=HF.out.learn;refine⟨_,g,c',J,rfl,?_,YC.out.2,hle,Cc.out.1,Cc.out.2.1,hJ,hS⟩;refine YC.out.1.trans ?_;have:=HN.out;subst this;rw[xU]
section
attribute [local go_sem ↓] aV
theorem iw {W w:World} {A:aB} {q:Nat} {x:Ac} {t:TypeId} {fr:Nat×Nat} (h:Sat W w (sep (blk q (.cells x.cells.toArray t fr)) A)):Sem.run Tryz.prog (loadCellsFrom ⟨q,0,none⟩ 0 kA #[]) w=.ok x.cells.toArray w:=by
 have hl:x.cells.length=kA:=rfl;have:=run_loadCells_list (P:=Tryz.prog) w ⟨q,0,none⟩ x.cells (fun j v hj=>by
  have e:(⟨q,0,none⟩:Addr).add j=⟨q,j,none⟩:=by unfold Addr.add;split<;>simp_all
  rw[e,Sat.cell h];simpa using hj)
 rw[hl] at this;exact this
end
def Oi (a v:Value):Sem Unit:=Instr.storeAt 36 a v
def mg (a:Value):Sem Value:=Instr.loadAt 36 a
theorem aY (a v:Value):Instr.storeAt 36 a v=Oi a v:=rfl
theorem bI (a:Value):Instr.loadAt 36 a=mg a:=rfl
theorem yN (w:World):(Go.isAgg 36).run Tryz.prog w=.ok true w:=by kernel_rfl
theorem cZ {w:World} {q:Nat} {cs:Array Value} (h:w.heap[q]?=some (.cells cs 36 (0,0))) (hs:cs.size=19) (x:Ac):
 Sem.run Tryz.prog (Oi (.pointer (some ⟨q,0,none⟩)) (.agg x.cells.toArray)) w=.ok () (w.setRow q x.cells.toArray):=by
 have hst:=run_storeCells_at Tryz.prog q 0 36 x.cells 0 cs w h (by show 0+0+19≤_;omega) x.one;have e:cs.toList.take (0+0)++x.cells++cs.toList.drop (0+0+x.cells.length)=x.cells:=by
  have hd:cs.toList.drop (0+0+x.cells.length)=[]:=List.drop_eq_nil_of_le (by rw[Array.length_toList,hs];show 19≤0+0+19;omega);rw[hd,List.append_nil];rfl
 rw[e] at hst;have hk:¬(Value.agg x.cells.toArray).cells.size≠kA:=by
  intro hc;exact hc rfl
 show Sem.run Tryz.prog (storeVar 36 ⟨q,0,none⟩ (.agg x.cells.toArray)) w=_;unfold storeVar;rw[Sem.run_bind,aV];show Sem.run Tryz.prog (if (Value.agg x.cells.toArray).cells.size≠kA then _ else _) w=_;rw[if_neg hk];exact hst
theorem RQ {P:Program} (B:Sem Bool) (N:Sem Nat) (L:Nat→Sem (Array Value)) (e:Sem Value) {n:Nat} {c:Array Value} {w:World} (hB:B.run P w=.ok true w) (hN:N.run P w=.ok n w) (hL:(L n).run P w=.ok c w):
 Sem.run P (do if ←B then pure (.agg (←L (←N))) else e) w=.ok (.agg c) w:=by
 rw[Sem.run_bind,hB];show Sem.run P (do pure (Value.agg (←L (←N)))) w=_;rw[Sem.run_bind,hN];show Sem.run P (do pure (Value.agg (←L n))) w=_;rw[Sem.run_bind,hL];rfl
theorem gB {w:World} {q:Nat} {x:Ac} (h:∀i v,x.cells[i]?=some v→w.cell? ⟨q,i,none⟩=some v):
 Sem.run Tryz.prog (mg (.pointer (some ⟨q,0,none⟩))) w=.ok (.agg x.cells.toArray) w:=by
 have hl:x.cells.length=kA:=rfl;have:=run_loadCells_list (P:=Tryz.prog) w ⟨q,0,none⟩ x.cells (fun j v hj=>by
  have e:(⟨q,0,none⟩:Addr).add j=⟨q,j,none⟩:=by unfold Addr.add;split<;>simp_all
  rw[e];exact h j v hj)
 rw[hl] at this;show Sem.run Tryz.prog (loadVar 36 ⟨q,0,none⟩) w=_;unfold loadVar;exact RQ (Go.isAgg 36) (Go.sizeOf 36) (loadCells ⟨q,0,none⟩) _ (yN w) (aV w) this
theorem XD (w:World) (c0 c1 c2 c3 c4 c5 c6 c7 c8 c9 c10 c11 c12 c13 c14 c15 c16 c17 c18:Value) (k d n f o p q u m sn sd fo fn:Int):
 Sem.run Tryz.prog (Oi (.pointer (some ⟨w.heap.size,0,none⟩)) (.agg #[.int .i64 k,.int .i64 d,.int .i64 n,.int .i64 f,.int .i64 o,.int .i64 p,.int .i64 q,.int .i64 u,.int .i64 m,.int .i64 sn,.int .i64 sd,.slice none 0 0,.slice none 0 0,.slice none 0 0,.slice none 0 0,.int .i64 fo,.int .i64 fn,.slice none 0 0,.slice none 0 0])) (w.alloc (.cells #[c0,c1,c2,c3,c4,c5,c6,c7,c8,c9,c10,c11,c12,c13,c14,c15,c16,c17,c18] 36))=.ok () (w.alloc (.cells #[.int .i64 k,.int .i64 d,.int .i64 n,.int .i64 f,.int .i64 o,.int .i64 p,.int .i64 q,.int .i64 u,.int .i64 m,.int .i64 sn,.int .i64 sd,.slice none 0 0,.slice none 0 0,.slice none 0 0,.slice none 0 0,.int .i64 fo,.int .i64 fn,.slice none 0 0,.slice none 0 0] 36)):=by
 have h:(w.alloc (.cells #[c0,c1,c2,c3,c4,c5,c6,c7,c8,c9,c10,c11,c12,c13,c14,c15,c16,c17,c18] 36)).heap[w.heap.size]?=some (.cells #[c0,c1,c2,c3,c4,c5,c6,c7,c8,c9,c10,c11,c12,c13,c14,c15,c16,c17,c18] 36 (0,0)):=heap_alloc_last _ _;have:=cZ h rfl ⟨k,d,n,f,o,p,q,u,m,sn,sd,ak,ak,ak,ak,fo,fn,ak,ak⟩;rw[show (w.alloc (.cells #[.int .i64 k,.int .i64 d,.int .i64 n,.int .i64 f,.int .i64 o,.int .i64 p,.int .i64 q,.int .i64 u,.int .i64 m,.int .i64 sn,.int .i64 sd,.slice none 0 0,.slice none 0 0,.slice none 0 0,.slice none 0 0,.int .i64 fo,.int .i64 fn,.slice none 0 0,.slice none 0 0] 36))=(w.alloc (.cells #[c0,c1,c2,c3,c4,c5,c6,c7,c8,c9,c10,c11,c12,c13,c14,c15,c16,c17,c18] 36)).setRow w.heap.size #[.int .i64 k,.int .i64 d,.int .i64 n,.int .i64 f,.int .i64 o,.int .i64 p,.int .i64 q,.int .i64 u,.int .i64 m,.int .i64 sn,.int .i64 sd,.slice none 0 0,.slice none 0 0,.slice none 0 0,.slice none 0 0,.int .i64 fo,.int .i64 fn,.slice none 0 0,.slice none 0 0] from (World.setRow_alloc_new w _ _ 36).symm];exact this
theorem ay {W w:World} {A:aB} {q:Nat} {x:Ac} (h:Sat W w (sep (blk q (.cells x.cells.toArray 36 (0,0))) A)) (i:Nat) (v:Value) (hv:x.cells[i]?=some v):w.cell? ⟨q,i,none⟩=some v∧w.frozen? ⟨q,i,none⟩=false:=
 ⟨by rw[h.cell i];simpa using hv,h.aI i⟩
theorem xg {w:World} {g o:Nat} {x:Ac} (h:∀j v,x.cells[j]?=some v→w.cell? ⟨g,o+j,none⟩=some v):
 Sem.run Tryz.prog (mg (.pointer (some ⟨g,o,none⟩))) w=.ok (.agg x.cells.toArray) w:=by
 have hl:x.cells.length=kA:=rfl;have:=run_loadCells_list (P:=Tryz.prog) w ⟨g,o,none⟩ x.cells (fun j v hj=>by
  have e:(⟨g,o,none⟩:Addr).add j=⟨g,o+j,none⟩:=by unfold Addr.add;split<;>simp_all
  rw[e];exact h j v hj)
 rw[hl] at this;show Sem.run Tryz.prog (loadVar 36 ⟨g,o,none⟩) w=_;unfold loadVar;exact RQ (Go.isAgg 36) (Go.sizeOf 36) (loadCells ⟨g,o,none⟩) _ (yN w) (aV w) this
theorem Q9 {J:Mem} {a:Option Addr} {xs:List Ac} {i:Nat} {z:Ac} (hc:dF a (bY xs) J) (hz:xs[i]?=some z):∃b o,a=some ⟨b,o,none⟩∧∀w',Ext J w'→Sem.run Tryz.prog (mg (.pointer (some ⟨b,o+i*19,none⟩))) w'=.ok (.agg z.cells.toArray) w':=by
 obtain⟨hi,rfl⟩:=qM hz;have hne2:bY xs≠[]:=fun e=>by
  have h1:=congrArg List.length e;rw[kS,List.length_nil] at h1;omega
 obtain⟨b,o,rfl,hcell⟩:=lD hc hne2;refine⟨b,o,rfl,fun w' he=>xg fun j v hj=>?_⟩;have hjl:j<19:=(qM hj).1;have h2:=hcell w' he (i*19+j) v (by rw[zG xs i hi j hjl];exact hj)
 rwa [show o+i*19+j=o+(i*19+j) by omega]
section
structure Dq (W:World) (BK:aB) (p:Nat) (a:Option Addr) (n c:Nat) (zl:List Ac):Prop where
 len:n=zl.length
 sw:Ld a n c
 ad:zl≠[]→∃g o,a=some ⟨g,o,none⟩
 bk:∀w R,Sat W w (sep BK R)→w.cell? ⟨p,0,none⟩=some (.slice a n c)
 src:∀w R,Sat W w (sep BK R)→∀b,a=some b→∀j u,(bY zl)[j]?=some u→w.cell? (b.add j)=some u
def dR (p:Nat) (a:Option Addr) (n c:Nat) (zl:List Ac):aB:=sep (blk p (.cells #[.slice a n c] 136 (0,0))) (aT 36 19 a n c (bY zl))
theorem Xk {W w:World} {A:aB} {E k:Nat} {a:Option Addr} {n c:Nat} {xs:List Value} (h:Sat W w (sep (aT E k a n c xs) A)):∀b,a=some b→∀j u,xs[j]?=some u→w.cell? (b.add j)=some u:=by
 intro b hb j u hu;obtain⟨g,e,hc⟩:=h.Ah (fun e=>by rw[e] at hu;simp at hu);rw[hb] at e;cases e;rw[show (⟨g,0,none⟩:Addr).add j=⟨g,j,none⟩ by unfold Addr.add;split<;>simp_all];exact hc j u hu
theorem jI {W w:World} {A:aB} {p:Nat} {a:Option Addr} {n c:Nat} {zl:List Ac} (hn:n=zl.length) (h:Sat W w (sep (dR p a n c zl) A)):Dq W (dR p a n c zl) p a n c zl:=by
 refine⟨hn,?_,fun hne=>?_,fun w R h=>?_,fun w R h=>?_⟩
 ·unfold dR at h
  rw[aj] at h;exact h.p1.fQ
 ·unfold dR at h
  rw[aj] at h;obtain⟨g,e,-⟩:=h.p1.Ah (fun e=>by
   have h1:=congrArg List.length e;rw[kS,List.length_nil] at h1;exact hne (Ju (by omega)))
  exact⟨g,0,e⟩
 ·unfold dR at h
  rw[aj] at h;exact h.cell 0
 ·unfold dR at h
  rw[aj] at h;exact Xk h.p1
theorem Dq.ld {W:World} {BK:aB} {p:Nat} {a:Option Addr} {n c:Nat} {zl:List Ac} (hB:Dq W BK p a n c zl) {i:Nat} {z:Ac} (hz:zl[i]?=some z):∃b o,a=some ⟨b,o,none⟩∧∀w R,Sat W w (sep BK R)→Sem.run Tryz.prog (mg (.pointer (some ⟨b,o+i*19,none⟩))) w=.ok (.agg z.cells.toArray) w∧∀j v,z.cells[j]?=some v→w.cell? ⟨b,o+i*19+j,none⟩=some v:=by
 obtain⟨hi,rfl⟩:=qM hz;obtain⟨b,o,hab⟩:=hB.ad (fun e=>by rw[e] at hi;simp at hi);have key:∀w R,Sat W w (sep BK R)→∀j v,zl[i].cells[j]?=some v→w.cell? ⟨b,o+i*19+j,none⟩=some v:=fun w R h j v hj=>by
  have hjl:j<19:=(qM hj).1;have h2:=hB.src w R h _ hab (i*19+j) v (by rw[zG zl i hi j hjl];exact hj);rw[show (⟨b,o,none⟩:Addr).add (i*19+j)=⟨b,o+(i*19+j),none⟩ by unfold Addr.add;split<;>simp_all] at h2
  rwa [←Nat.add_assoc] at h2
 exact⟨b,o,hab,fun w R h=>⟨xg (key w R h),key w R h⟩⟩
attribute [local go_sem ↓] aY bI aV
theorem TQ {W w:World} {BK A:aB} {p:Nat} {a:Option Addr} {n c:Nat} {zl:List Ac} (hB:Dq W BK p a n c zl) (h:Sat W w (sep BK A)):
 Calls Tryz.prog 53 #[.pointer (some ⟨p,0,none⟩)] w fun e w'=>e=.returned (.int .i64 (n:Nat))∧w=w':=by
 have k0:=hB.bk w A h;go_enter Tryz.func53,Tryz.ntmps53;go_wp2;go_ret;exact⟨rfl,rfl⟩
def kP (zl:List Ac):Int:=match zl.getLast? with|some z=>z.n|none=>0
theorem nU {W w:World} {BK A:aB} {p:Nat} {a:Option Addr} {n c:Nat} {zl:List Ac} (hB:Dq W BK p a n c zl) (h:Sat W w (sep BK A)):
 Calls Tryz.prog 39 #[.pointer (some ⟨p,0,none⟩)] w fun e w'=>e=.returned (.int .i64 (kP zl))∧Sat W w' (sep BK A):=by
 have k0:=hB.bk w A h;by_cases hn:n=0
 ·have hz:zl=[]:=Ju (by rw[←hB.len,hn])
  subst hn;have HZ:Hid (kP zl=0):=ah (by rw[hz];rfl);have H:=ah h;rw[HZ.out];clear hB h hz;go_enter Tryz.func39,Tryz.ntmps39;go_wp2;go_ret;exact⟨rfl,H.out⟩
 ·have hl:zl[n-1]?=some (zl[n-1]'(by have:=hB.len;omega)):=iM _
  obtain⟨z,hz⟩:=aC (zl[n-1]'(by have:=hB.len;omega));rw[←hz] at hl;have hw:kP zl=z.n:=by
   unfold kP;rw[List.getLast?_eq_getElem?,←hB.len,hl]
  rw[hw];obtain⟨b,o,hab,hld⟩:=hB.ld hl;have hd:=h.drew;have hk:=(hld w.drew A hd).2 2 _ rfl;have k1:=hB.bk w.drew A hd;subst hab;have hnz:(n:Int)≠0:=by omega
  have hnb:((n:Int)==0)=false:=by simpa using hnz
  have h63:(n:Int)≤9223372036854775807:=by have:=hB.sw;have:=this.1;have:=hB.sw.2.1;unfold maxLen at this;omega
  obtain⟨m,hm⟩:∃m,n=m+1:=⟨n-1,by omega⟩
  have hwr:IntKind.i64.wrap ((n:Int)-1)=((n-1:Nat):Int):=by rw[show (n:Int)-1=((n-1:Nat):Int) by omega];exact IntWalk.i64_in _ (by omega)
  have hlt:((n-1:Nat):Int)<(n:Int):=by omega
  have HD:=ah hd;clear hB h hz hl hw hld hd hn hnz;go_enter Tryz.func39,Tryz.ntmps39;go_upto_region 3 with fail;obtain⟨q,hq⟩:=aC (n-1);rw[←hq] at hk hwr hlt;clear hm hnb k0;refine aG rfl (fun _=>True) [(0,.p),(1,.p),(2,.p),(3,.t),(4,.p),(5,.p),(6,.p),(7,.t),(8,.p),(9,.p),(10,.p),(11,.p),(12,.t),(13,.p)] (by kernel_rfl) ?_;have hS0:True:=trivial;clear hq;refine bG ?_;refine dJ ?_;go_wp2;go_ret;exact⟨rfl,HD.out⟩
theorem zn {W w:World} {A:aB} (z:Ac) (h:Sat W w A) (cs:Array Value) (hs:cs.size=19):∃w',Sem.run Tryz.prog (Oi (.pointer (some ⟨w.heap.size,0,none⟩)) (.agg z.cells.toArray)) (w.alloc (.cells cs 36))=.ok () w'∧Sat W w' (sep (blk w.heap.size (.cells z.cells.toArray 36 (0,0))) A):=by
 have h1:=h.alloc (.cells cs 36);exact⟨_,cZ h1.aO hs z,h1.setRow _⟩
end
end Go.Proofs.YthfmaclnccdcbaaGreatDoor
namespace PA
open Go Go.RowKit
def jM (fs:List (Value×(Ac→Bool))) (z:Ac):Bool:=fs.all fun f=>f.2 z
end PA
namespace Go.Proofs.YthfmaclnccdcbaaGreatDoor
open Go.RowKit PA
def C9 (W:World) (CN:aB) (cv:Value) (P:Ac→Bool):Prop:=∃(gf:Nat) (lb:Array Value),cv=.func (.func gf) #[] lb∧(∀args w,(callFunc gf args).run Tryz.prog w=.ok (.enter gf args) w) ∧
 ∀(z:Ac) (w:World) (A:aB),Sat W w (sep CN A)→Calls Tryz.prog gf (#[.agg z.cells.toArray]++lb) w fun e w'=>e=.returned (.bool (P z))∧Sat W w' (sep CN A)
structure II (W:World) (CN:aB) (cb:Option Addr) (k c:Nat) (fs:List (Value×(Ac→Bool))):Prop where
 len:k=fs.length
 le:k≤2
 at':k≠0→∃g,cb=some ⟨g,0,none⟩∧∀w A,Sat W w (sep CN A)→∀(i:Nat) (f:Value×(Ac→Bool)),fs[i]?=some f→w.cell? ⟨g,i,none⟩=some f.1
 ok:∀(i:Nat) (f:Value×(Ac→Bool)),fs[i]?=some f→C9 W CN f.1 f.2
attribute [local go_sem ↓] aY bI aV
theorem Kt {W w:World} {CN A:aB} {g:Nat} {z:Ac} {cv:Value} {P:Ac→Bool} (hc:C9 W CN cv P) (h:Sat W w (sep CN (sep (blk g (.cells z.cells.toArray 36 (0,0))) A))):
 Calls Tryz.prog 153 #[cv,.pointer (some ⟨g,0,none⟩)] w fun e w'=>e=.returned (.bool (!P z))∧Sat W w' (sep CN (sep (blk g (.cells z.cells.toArray 36 (0,0))) A)):=by
 obtain⟨gf,lb,rfl,eg,hcall⟩:=hc;have hld:=gB (fun i v hv=>(ay h.p1 i v hv).1);have HC:=ah (hcall z w _ h);clear hcall h;go_enter Tryz.func153,Tryz.ntmps153;go_wp2_with fail;refine HC.out.mono ?_;rintro e w2 ⟨rfl,h2⟩;have H2:=ah h2;clear h2 HC hld;go_wp2;go_ret;exact⟨rfl,H2.out⟩
theorem Ti {fs:List (Value×(Ac→Bool))} {z:Ac} {i:Nat} {f:Value×(Ac→Bool)} (h:fs[i]?=some f):jM (fs.drop i) z=(f.2 z&&jM (fs.drop (i+1)) z):=by
 obtain⟨hi,rfl⟩:=qM h;unfold jM;rw[List.drop_eq_getElem_cons hi,List.all_cons]
theorem Jp {W w:World} {CN A:aB} {cb:Option Addr} {k c g:Nat} {fs:List (Value×(Ac→Bool))} {z:Ac} (hF:II W CN cb k c fs) (h:Sat W w (sep CN (sep (blk g (.cells z.cells.toArray 36 (0,0))) A))):
 Calls Tryz.prog 193 #[.slice cb k c,.func (.func 153) #[] #[.pointer (some ⟨g,0,none⟩)]] w fun e w'=>∃r:Int,e=.returned (.int .i64 r)∧decide (0≤r)=!jM fs z∧Sat W w' (sep CN (sep (blk g (.cells z.cells.toArray 36 (0,0))) A)):=by
 have HF:=ah hF;have H:=ah h;have hk:=hF.le;have h0:Hid (jM fs z=jM (fs.drop 0) z):=ah rfl;have eg:=Go.Proofs.enters_of (P:=Tryz.prog) Tryz.func153 (by kernel_rfl) rfl;obtain⟨Po,dS⟩:∃P:Ending→World→Prop,P=fun e w'=>∃r:Int,e=.returned (.int .i64 r)∧decide (0≤r)=!jM fs z∧Sat W w' (sep CN (sep (blk g (.cells z.cells.toArray 36 (0,0))) A)):=⟨_,rfl⟩
 rw[←dS];have bK:=ah dS;clear hF h dS;go_enter Tryz.func193,Tryz.ntmps193;go_wp2_with fail;go_loopw [8] (fun kv wr=>∃i:Nat,kv=.int .i64 i∧i≤k∧Hid (jM fs z=jM (fs.drop i) z)∧Sat W wr (sep CN (sep (blk g (.cells z.cells.toArray 36 (0,0))) A))) (fun kv _=>k-(intOf kv).toNat)
 case atStart=>exact⟨0,rfl,by omega,h0,H.out⟩
 case round=>
  obtain⟨i,rfl,hi,HI,hS⟩:=hrel;clear H h0;by_cases hlt:i<k
  ·have hltz:(i:Int)<(k:Int):=by omega
   obtain⟨f,hf⟩:∃f,fs[i]?=some f:=⟨_,iM (by have:=HF.out.len;omega)⟩
   obtain⟨gb,rfl,hcell⟩:=HF.out.at' (by omega);have k0:=hcell wr _ hS i f hf;have hw:=Kt (HF.out.ok i f hf) hS;have HW:=ah hw;have HN:Hid (jM fs z=(f.2 z&&jM (fs.drop (i+1)) z)∧i<k):=ah ⟨HI.out.trans (Ti hf),hlt⟩;obtain⟨fv,fp⟩:=f;dsimp only at k0 HW HN;obtain⟨fz,hfz⟩:=aC (fp z);rw[←hfz] at HW HN;clear hf hcell hw hlt hi hS hfz;go_upto_region 4 with fail;go_wp2_with fail;refine HW.out.mono ?_;rintro e w2 ⟨rfl,h2⟩;have H2:=ah h2;clear h2 k0 HW;cases fz with
   | false=>
    have KT:Hid (jM fs z=false):=ah HN.out.1;go_wp2;rw[bK.out];exact⟨i,rfl,by rw[KT.out,decide_eq_true (by omega)];rfl,H2.out⟩
   | true=>
    have HT:Hid (jM fs z=jM (fs.drop (i+1)) z):=ah HN.out.1;go_wp2;go_roundw;case rel=>exact⟨i+1,by go_num,by have:=HN.out.2;omega,HT,H2.out⟩
    case measure=>simp[intOf];have:=HN.out.2;omega
  ·obtain rfl:i=k:=by omega
   have HT:Hid (jM fs z=true):=ah (by
    rw[HI.out,List.drop_eq_nil_of_le (by have:=HF.out.len;omega)];rfl)
   have HS:=ah hS;clear hS hlt hi;go_wp2;rw[bK.out];exact⟨-1,rfl,by rw[HT.out];rfl,HS.out⟩
theorem Gn {W w:World} {CN A:aB} {cb:Option Addr} {k c g:Nat} {fs:List (Value×(Ac→Bool))} {z:Ac} (hF:II W CN cb k c fs) (h:Sat W w (sep CN (sep (blk g (.cells z.cells.toArray 36 (0,0))) A))):
 Calls Tryz.prog 152 #[.slice cb k c,.func (.func 153) #[] #[.pointer (some ⟨g,0,none⟩)]] w fun e w'=>e=.returned (.bool (!jM fs z))∧Sat W w' (sep CN (sep (blk g (.cells z.cells.toArray 36 (0,0))) A)):=by
 have HI:=ah (Jp hF h);clear hF h;go_enter Tryz.func152,Tryz.ntmps152;go_wp2_with fail;refine HI.out.mono ?_;rintro e w2 ⟨r,rfl,hr,h2⟩;have H2:=ah h2;have HR:=ah hr;clear h2 HI;clear hr;go_wp2;go_ret;exact⟨by rw[←HR.out];rfl,H2.out⟩
def RD (z:Ac):Array Value:=#[.agg z.cells.toArray]
def Zx (zl:List Ac) (z:Ac):aB:=fact (z∈zl)
def oJ (q1 q2 p:Nat) (cb:Option Addr) (k cc:Nat):aB:=sep (blk q1 (.cells #[.pointer (some ⟨p,0,none⟩)] 68 (0,0))) (blk q2 (.cells #[.slice cb k cc] 175 (0,0)))
attribute [local go_sem] Oper.semAt_some
set_option maxRecDepth 100000 in
set_option maxHeartbeats 4000000 in
theorem Ku {W:World} {BK CN A:aB} (n:Nat) (hn:1≤n) {q1 q2 p:Nat} {a cb:Option Addr} {m c k cc:Nat} {zl:List Ac} {fs:List (Value×(Ac→Bool))} (hB:Dq W BK p a m c zl) (hF:II W CN cb k cc fs):
 Gives Fence.wide n Tryz.prog W 151 #[.pointer (some ⟨q1,0,none⟩),.pointer (some ⟨q2,0,none⟩)] RD (Zx zl) (m+1) (fun xs=>xs=zl.filter (jM fs))
  (sep BK (sep CN (sep (oJ q1 q2 p cb k cc) A))) (sep BK (sep CN (sep (oJ q1 q2 p cb k cc) A))):=by
 intro lp R w hY h0;have HY:=ah hY;have HB:=ah hB;have HF:=ah hF;have HX:Hid (∀w' X,Sat W w' (sep X (sep BK (sep CN (sep (oJ q1 q2 p cb k cc) A))))→w'.cell? ⟨q1,0,none⟩=some (.pointer (some ⟨p,0,none⟩))∧w'.cell? ⟨q2,0,none⟩=some (.slice cb k cc)∧w'.cell? ⟨p,0,none⟩=some (.slice a m c)):=ah fun w' X h=>by
  have h1:=h.p1;have h2:Sat W w' (sep (oJ q1 q2 p cb k cc) (sep X (sep BK (sep CN A)))):=dI h;unfold oJ at h2;rw[aj] at h2;exact⟨h2.cell 0,h2.p1.cell 0,hB.bk w' _ h1⟩
 obtain⟨c0,c1,c2⟩:=HX.out w _ h0;have H0:=ah h0;have hm63:(m:Int)≤9223372036854775807:=by have:=hB.sw.1;have:=hB.sw.2.1;unfold maxLen at this;omega
 have hmf:∀(fn:Fn) (first cap:Array Value) (w:World),(Instr.makeFunc fn first cap).run Tryz.prog w=.ok (.func fn first cap) w:=fun _ _ _ _=>rfl
 clear hY hB hF h0;refine callsIn_of_wp Tryz.func151 rfl trivial ?_ rfl;simp only[Tryz.ntmps151,List.size_toArray,oP,List.length_nil,Nat.reduceAdd,Nat.reduceSub,Array.replicate_succ,Array.replicate_zero,List.push_toArray,List.append_toArray,tK,pV];gi_wp2_with fail
 gi_loopw [11] (fun iv wr=>∃i:Nat,iv=.int .i64 i∧i≤m∧Sat W wr (sep (R ((zl.take i).filter (jM fs))) (sep BK (sep CN (sep (oJ q1 q2 p cb k cc) A))))) (fun iv _=>m-(intOf iv).toNat)
 case atStart=>exact⟨0,rfl,by omega,by rw[List.take_zero];exact H0.out⟩
 case round=>
  obtain⟨i,rfl,hi,hS⟩:=hrel;clear H0 c0 c1 c2;by_cases hlt:i<m
  ·have hltz:(i:Int)<(m:Int):=by omega
   obtain⟨z,hz⟩:∃z,zl[i]?=some z:=⟨_,iM (by have:=HB.out.len;omega)⟩
   obtain⟨b0,o0,hab,hld⟩:=HB.out.ld hz;have k1:=(hld wr _ hS.p1).1;obtain⟨w4,hst,h4⟩:=zn z hS iW rfl;have h5:Sat W w4 (sep CN (sep (blk wr.heap.size (.cells z.cells.toArray 36 (0,0))) (sep (R ((zl.take i).filter (jM fs))) (sep BK (sep (oJ q1 q2 p cb k cc) A))))):=dI h4;obtain⟨-,c1,-⟩:=HX.out w4 _ (show Sat W w4 (sep (sep (blk wr.heap.size (.cells z.cells.toArray 36 (0,0))) (R ((zl.take i).filter (jM fs)))) (sep BK (sep CN (sep (oJ q1 q2 p cb k cc) A)))) by rw[aj];exact h4);have HCT:=ah (Gn HF.out h5);have hmem:=mZ hz;have aeV:=ah hmem;have hfi:(zl.take (i+1)).filter (jM fs)=(zl.take i).filter (jM fs)++if jM fs z=true then [z] else []:=by
    rw[List.take_add_one,hz,List.filter_append];simp[List.filter_cons]
   have hpl:((zl.take i).filter (jM fs)).length<m+1:=by
    have:=List.length_filter_le (jM fs) (zl.take i);rw[List.length_take] at this;omega
   obtain⟨ys,hys⟩:=aC ((zl.take i).filter (jM fs));rw[←hys] at hfi hpl HCT;obtain⟨ba,hba⟩:=aC (jM fs z);rw[←hba] at hfi HCT;have QV:=ah (aH hfi (aH hlt hpl));subst hab;clear hz hmem hld hS h4 h5 hfi hpl hys hba hlt hi;gi_upto_region 2 with fail;gi_upto_region 3 with fail;gi_wp2_with fail;refine⟨trivial,(callsIn_wide.2 HCT.out).mono ?_⟩;rintro e w5 ⟨rfl,h6⟩;have h7:Sat W w5 (sep (blk wr.heap.size (.cells z.cells.toArray 36 (0,0))) (sep (R ys) (sep BK (sep CN (sep (oJ q1 q2 p cb k cc) A))))):=dI h6;clear h6 HCT c1 k1 hst;cases ba with
   | false=>
    have HN:Hid (Sat W w5 (sep (R ((zl.take (i+1)).filter (jM fs))) (sep BK (sep CN (sep (oJ q1 q2 p cb k cc) A))))):=ah (by
     rw[QV.out.1];simpa using h7.drop)
    clear h7;gi_wp2_with fail;refine⟨fun _ hf=>(by cases hf),?_⟩;gi_wp2_with fail;go_roundw;case rel=>exact⟨i+1,by go_num,by have:=QV.out.2.1;omega,HN.out⟩
    case measure=>simp[intOf];have:=QV.out.2.1;omega
   | true=>
    have k2:=gB (fun i v hv=>(ay h7 i v hv).1);have hxx:Sat W w5 (sep (R ys) (sep (Zx zl z) (sep BK (sep CN (sep (oJ q1 q2 p cb k cc) A))))):=
     (Sat.fact.2 ⟨aeV.out,h7.drop⟩:Sat W w5 (sep (Zx zl z) (sep (R ys) (sep BK (sep CN (sep (oJ q1 q2 p cb k cc) A)))))).p1
    obtain⟨fn,tmps,assign,body,hy,hR⟩:=HY.out ys z w5 _ QV.out.2.2 hxx;dsimp only[RD] at hy;clear h7 hxx;gi_wp2_with fail;refine hR.mono ?_;rintro e' w6 ⟨rfl,h9⟩;have HN:Hid (Sat W w6 (sep (R ((zl.take (i+1)).filter (jM fs))) (sep BK (sep CN (sep (oJ q1 q2 p cb k cc) A))))):=ah (by
     rw[QV.out.1];exact h9)
    clear hR hy k2 h9;gi_wp2_with fail;go_roundw;case rel=>exact⟨i+1,by go_num,by have:=QV.out.2.1;omega,HN.out⟩
    case measure=>simp[intOf];have:=QV.out.2.1;omega
  ·obtain rfl:i=m:=by omega
   have HN:Hid (Sat W wr (sep (R (zl.filter (jM fs))) (sep BK (sep CN (sep (oJ q1 q2 p cb k cc) A))))):=ah (by
    rw[HB.out.len,List.take_length] at hS;exact hS)
   clear hS hlt hi;gi_wp2_with fail;go_end0;exact⟨⟨_,rfl⟩,_,rfl,HN.out⟩
theorem QL {W w:World} {A:aB} (p:Nat) (cb:Option Addr) (k cc:Nat) (h:Sat W w A):
 Calls Tryz.prog 103 #[.pointer (some ⟨p,0,none⟩),.slice cb k cc] w fun e w'=>∃q1 q2,e=.returned (.func (.func 151) #[] #[.pointer (some ⟨q1,0,none⟩),.pointer (some ⟨q2,0,none⟩)])∧Sat W w' (sep (oJ q1 q2 p cb k cc) A):=by
 have h1:=(h.alloc (.cells #[.pointer (some ⟨p,0,none⟩)] 68)).alloc (.cells #[.slice cb k cc] 175);rw[World.size_alloc] at h1;have hmf:∀(fn:Fn) (first cap:Array Value) (w:World),(Instr.makeFunc fn first cap).run Tryz.prog w=.ok (.func fn first cap) w:=fun _ _ _ _=>rfl
 have H1:Hid (Sat W ((w.alloc (.cells #[.pointer (some ⟨p,0,none⟩)] 68)).alloc (.cells #[.slice cb k cc] 175)) (sep (oJ w.heap.size (w.heap.size+1) p cb k cc) A)):=ah (by
  unfold oJ;rw[aj];exact h1.p1)
 clear h h1;go_enter Tryz.func103,Tryz.ntmps103;go_wp2;go_ret;exact⟨_,_,rfl,H1.out⟩
end Go.Proofs.YthfmaclnccdcbaaGreatDoor
namespace PA
open Go Go.RowKit
end PA
namespace Go.Proofs.YthfmaclnccdcbaaGreatDoor
open Go.RowKit PA
theorem MX:(Tryz.prog.info? 93).map (fun i=>(i.zero,i.size,i.bytes))=some (some (.agg #[.int .i64 0,.int .i64 0]),2,16):=by kernel_rfl
theorem Zr:(Tryz.prog.info? 91).map (fun i=>(i.zero,i.size,i.bytes))=some (some (.agg #[.slice none 0 0,.int .i64 0,.int .i64 0,.slice none 0 0,.slice none 0 0]),5,88):=by kernel_rfl
theorem WQ:(Tryz.prog.info? 3).map (fun i=>(i.zero,i.size,i.bytes))=some (some (.int .i64 0),1,8):=by kernel_rfl
def aap (n:Nat) (p:Array (Nat×Value)):Sem Value:=Instr.buildSlice 27 n p
theorem DT (n:Nat) (p:Array (Nat×Value)):Instr.buildSlice 27 n p=aap n p:=rfl
theorem bsFmO1 (w:World) (c0 c1 c2 c3:Value):(aap 1 #[(0,.agg #[c0,c1,c2,c3])]).run Tryz.prog w=.ok (.slice (some ⟨w.heap.size,0,none⟩) 1 1) (w.alloc (.cells #[c0,c1,c2,c3] 34)):=by
 obtain⟨i,h1,h2,h3,h4⟩:=info_parts iQ;exact run_buildSlice w 27 34 1 _ _ i _ Tryz.underlying27 h1 h2 (by rw[h3];omega) (by rw[h3];omega) (by rw[h3];kernel_rfl)
def aao (n:Nat) (p:Array (Nat×Value)):Sem Value:=Instr.buildSlice 28 n p
theorem DR (n:Nat) (p:Array (Nat×Value)):Instr.buildSlice 28 n p=aao n p:=rfl
theorem bsClO1 (w:World) (c0 c1 c2 c3 c4:Value):(aao 1 #[(0,.agg #[c0,c1,c2,c3,c4])]).run Tryz.prog w=.ok (.slice (some ⟨w.heap.size,0,none⟩) 1 1) (w.alloc (.cells #[c0,c1,c2,c3,c4] 91)):=by
 obtain⟨i,h1,h2,h3,h4⟩:=info_parts Zr;exact run_buildSlice w 28 91 1 _ _ i _ Tryz.underlying28 h1 h2 (by rw[h3];omega) (by rw[h3];omega) (by rw[h3];kernel_rfl)
def bsEO (n:Nat) (p:Array (Nat×Value)):Sem Value:=Instr.buildSlice 31 n p
theorem F7 (n:Nat) (p:Array (Nat×Value)):Instr.buildSlice 31 n p=bsEO n p:=rfl
theorem bsEO0 (w:World):(bsEO 0 #[]).run Tryz.prog w=.ok (.slice (some ⟨w.heap.size,0,none⟩) 0 0) (w.alloc (.cells #[] 93)):=by
 obtain⟨i,h1,h2,h3,h4⟩:=info_parts MX;show (Instr.buildSlice 31 0 #[]).run Tryz.prog w=_;simp[Instr.buildSlice,run_underlying Tryz.underlying31,sizeOf,typeInfo,h1,newRow,Instr.fill];have e:∀g:Nat→Value,(Array.range 0).map g=#[]:=fun g=>Array.eq_empty_of_size_eq_zero (by simp)
 rw[e]
theorem bsEO2 (w:World) (c0 c1 c2 c3:Value):(bsEO 2 #[(0,.agg #[c0,c1]),(1,.agg #[c2,c3])]).run Tryz.prog w=.ok (.slice (some ⟨w.heap.size,0,none⟩) 2 2) (w.alloc (.cells #[c0,c1,c2,c3] 93)):=by
 obtain⟨i,h1,h2,h3,h4⟩:=info_parts MX;exact run_buildSlice w 31 93 2 _ _ i _ Tryz.underlying31 h1 h2 (by rw[h3];omega) (by rw[h3];omega) (by rw[h3];kernel_rfl)
def bsIO (n:Nat) (p:Array (Nat×Value)):Sem Value:=Instr.buildSlice 22 n p
theorem F8 (n:Nat) (p:Array (Nat×Value)):Instr.buildSlice 22 n p=bsIO n p:=rfl
theorem bsIO1 (w:World) (c0:Int):(bsIO 1 #[(0,.int .i64 c0)]).run Tryz.prog w=.ok (.slice (some ⟨w.heap.size,0,none⟩) 1 1) (w.alloc (.cells #[.int .i64 c0] 3)):=by
 obtain⟨i,h1,h2,h3,h4⟩:=info_parts WQ;exact run_buildSlice w 22 3 1 _ _ i _ Tryz.underlying22 h1 h2 (by rw[h3];omega) (by rw[h3];omega) (by rw[h3];kernel_rfl)
attribute [local go_sem ↓] aY bI aV DT DR F8 F7
attribute [local go_sem] bsFmO1 bsClO1 bsIO1 bsEO0 bsEO2
end Go.Proofs.YthfmaclnccdcbaaGreatDoor

/- Part of a proof. -/
import Derived.Test.YthfmaclnccdcbaaGreatDoorGActsOrder34
namespace Go.Proofs.YthfmaclnccdcbaaGreatDoor
open Go.RowKit PA
theorem Ih:(Tryz.prog.info? 100).map (fun i=>(i.zero,i.size,i.bytes))=some (some (.agg #[.int .i64 0,.int .i64 0]),2,16):=by kernel_rfl
def bsP (n:Nat) (p:Array (Nat×Value)):Sem Value:=Instr.buildSlice 101 n p
theorem He (n:Nat) (p:Array (Nat×Value)):Instr.buildSlice 101 n p=bsP n p:=rfl
theorem X8 (w:World) (a b:Int):(bsP 1 #[(0,.agg #[.int .i64 a,.int .i64 b])]).run Tryz.prog w=.ok (.slice (some ⟨w.heap.size,0,none⟩) 1 1) (w.alloc (.cells #[.int .i64 a,.int .i64 b] 100)):=by
 obtain⟨i,h1,h2,h3,h4⟩:=info_parts Ih;exact run_buildSlice w 101 100 1 _ _ i _ Tryz.underlying101 h1 h2 (by rw[h3];omega) (by rw[h3];omega) (by rw[h3];kernel_rfl)
theorem bs_p2 (w:World) (a b c d:Int):(bsP 2 #[(0,.agg #[.int .i64 a,.int .i64 b]),(1,.agg #[.int .i64 c,.int .i64 d])]).run Tryz.prog w=.ok (.slice (some ⟨w.heap.size,0,none⟩) 2 2) (w.alloc (.cells #[.int .i64 a,.int .i64 b,.int .i64 c,.int .i64 d] 100)):=by
 obtain⟨i,h1,h2,h3,h4⟩:=info_parts Ih;exact run_buildSlice w 101 100 2 _ _ i _ Tryz.underlying101 h1 h2 (by rw[h3];omega) (by rw[h3];omega) (by rw[h3];kernel_rfl)
attribute [local go_sem ↓] bW dB aY He
set_option maxRecDepth 100000 in
set_option maxHeartbeats 16000000 in
theorem BR {W w:World} {A:aC} {I:Mem} (z y:Ac) (x t:Pa) (hA:kX I z x) (hz:SX x) (hE:kK x) (hA2:kX I y t) (hz2:SX t) (hE2:kK t) (h:Sat W w (sep (kn I) A)):
 Calls Tryz.prog 22 #[.agg z.cells.toArray,.agg y.cells.toArray] w fun e w'=>∃J,e=.returned (.int .i64 (o9 x t))∧Mem.le I J∧Sat W w' (sep (kn J) A):=by
 have h1:=(h.alloc (.cells z.cells.toArray 36)).alloc (.cells y.cells.toArray 36);rw[World.size_alloc] at h1;obtain⟨B,hB⟩:=aB (w.heap.size);obtain⟨w1,hw1⟩:=aB ((w.alloc (.cells z.cells.toArray 36)).alloc (.cells y.cells.toArray 36));rw[←hB,←hw1] at h1;have HB:=ah (And.intro hB hw1);obtain⟨X,hX⟩:=aB (sep (blk (B+1) (.cells y.cells.toArray 36 (0,0))) (sep (blk B (.cells z.cells.toArray 36 (0,0))) A));have h1':Sat W w1 (sep (kn I) X):=by rw[hX];simpa only[aA,ay,aj] using h1
 have HX1:Hid (∀w' J,Sat W w' (sep (kn J) X)→Sat W w' (sep (blk B (.cells z.cells.toArray 36 (0,0))) (sep (blk (B+1) (.cells y.cells.toArray 36 (0,0))) (sep (kn J) A)))):=ah fun w' J h'=>by rw[hX] at h';simpa only[aA,ay,aj] using h'
 have SI:Hid (∀w' J,Sat W w' (sep (kn J) X)→Sat W w' (sep (blk (B+1) (.cells y.cells.toArray 36 (0,0))) (sep (blk B (.cells z.cells.toArray 36 (0,0))) (sep (kn J) A)))):=ah fun w' J h'=>by rw[hX] at h';simpa only[aA,ay,aj] using h'
 have hld:=gB (HX1.out _ _ h1');obtain⟨BX,hBX⟩:=aB (gZ x);obtain⟨BY,hBY⟩:=aB (gZ t);obtain⟨KS,hKS⟩:=aB (keysB z.d z.n y.d y.n BX BY);obtain⟨rv,dK⟩:=aB (o9 x t);have ji:rv=qR KS:=by rw[dK,hKS,hBX,hBY,hA.d,hA.n,hA2.d,hA2.n];rfl
 have HE1:Hid (∀w' A',Sat W w' (sep (kn I) A')→Calls Tryz.prog 27 #[.agg z.cells.toArray] w' fun e w''=>∃(b:Option Addr) (m d:Nat) (ev:Int) (J:Mem),e=.returned (.tuple #[.slice b m d,.int .i64 ev])∧Mem.le I J∧bT.rel J [.slice b m d] BX∧Sat W w'' (sep (kn J) A')):=ah fun w' A' h'=>by
  refine (pq z x hA hz hE h').mono ?_;rintro e w'' ⟨b,m,d,J,rfl,h1,h2,h3⟩;exact⟨b,m,d,_,J,rfl,h1,by rw[hBX];exact h2,h3⟩
 have HE2:Hid (∀w' A' J,Mem.le I J→Sat W w' (sep (kn J) A')→Calls Tryz.prog 27 #[.agg y.cells.toArray] w' fun e w''=>∃(b:Option Addr) (m d:Nat) (ev:Int) (J2:Mem),e=.returned (.tuple #[.slice b m d,.int .i64 ev])∧Mem.le J J2∧bT.rel J2 [.slice b m d] BY∧Sat W w'' (sep (kn J2) A')):=ah fun w' A' J hl h'=>by
  refine (pq y t (hA2.mono hl) hz2 hE2 h').mono ?_;rintro e w'' ⟨b,m,d,J2,rfl,h1,h2,h3⟩;exact⟨b,m,d,_,J2,rfl,h1,by rw[hBY];exact h2,h3⟩
 have hlx:BX.length≤1073741824:=by
  rw[hBX];unfold gZ;split
  ·exact hE.lw
  ·simp
 have hly:BY.length≤1073741824:=by
  rw[hBY];unfold gZ;split
  ·exact hE2.lw
  ·simp
 have bM:=ah (And.intro ji hKS);have H1:=ah h1';rw[←dK];obtain⟨Po,dU⟩:∃P:Ending→World→Prop,P=fun e w'=>∃J,e=.returned (.int .i64 rv)∧Mem.le I J∧Sat W w' (sep (kn J) A):=⟨_,rfl⟩
 rw[←dU];have bI:=ah dU;have HLL:=ah (And.intro hlx hly);clear hA hz hE hA2 hz2 hE2 h h1 h1' hB hw1 hX hBX hBY hKS dK ji hlx hly dU
 go_enter Tryz.func22,Tryz.ntmps22
 go_upto_region 1 with (fail)
 rw[←HB.out.1,←HB.out.2]
 go_wp2_with fail
 refine (HE1.out _ _ H1.out).mono ?_;rintro e w2 ⟨xa,xn,xc,ev1,J1,rfl,hle1,hr1,h2⟩;have NR:=gB (SI.out _ _ h2);have XF:=ah (And.intro hle1 hr1);have H2:=ah h2;clear h2 hle1 hr1 HE1 H1 hld
 go_upto_region 2 with (fail)
 go_wp2_with fail
 refine (HE2.out _ _ J1 XF.out.1 H2.out).mono ?_;rintro e w3 ⟨ya,yn,yc,ev2,J2,rfl,hle2,hr2,h3⟩;have hp1:=HX1.out _ _ h3;have hp2:=SI.out _ _ h3;have a1:=(au hp1 1 _ rfl).1;have a2:=(au hp1 2 _ rfl).1;have b1:=(au hp2 1 _ rfl).1;have b2:=(au hp2 2 _ rfl).1;obtain⟨hxn,ahE,hxe⟩:=uG (bT.mono hle2 XF.out.2);obtain⟨hyn,ahG,hye⟩:=uG hr2;have yF:=ah (And.intro hxn hxe);have HYE:=ah (And.intro hyn hye);have HJ2:=ah (eG XF.out.1 hle2);have hbs:=bs_p2 w3 z.d y.d z.n y.n;have hAl:=h3.alloc (.cells #[.int .i64 z.d,.int .i64 y.d,.int .i64 z.n,.int .i64 y.n] 100);obtain⟨N,hN⟩:=aB (w3.heap.size);obtain⟨w4,hw4⟩:=aB (w3.alloc (.cells #[.int .i64 z.d,.int .i64 y.d,.int .i64 z.n,.int .i64 y.n] 100));rw[←hN,←hw4] at hbs hAl;have hos:Sat W w4 (sep (aT 100 2 (some ⟨N,0,none⟩) 2 2 (wQ [(z.d,y.d),(z.n,y.n)])) (sep (kn J2) X)):=hAl.kT 2 2 2 _ rfl (by omega) (by unfold maxLen;omega) rfl rfl;have HO:=ah hos;have hxl:xn≤1073741824:=by have:=HLL.out.1;omega
 have hyl:yn≤1073741824:=by have:=HLL.out.2;omega
 have Jf:=ah (And.intro hxl hyl);clear hxn hxe hyn hye hle2 hr2 h3 hp1 hp2 hN hAl hos NR H2 HE2 hxl hyl
 go_upto_region 4 with (fail)
 try rw[←hw4]
 clear hbs hw4 a1 a2 b1 b2;obtain⟨K,hK⟩:∃K:Nat→List (Int×Int),K=fun j=>[(z.d,y.d),(z.n,y.n)]++(oC BX BY).take j:=⟨_,rfl⟩
 have hK0:K 0=[(z.d,y.d),(z.n,y.n)]:=by rw[hK];rfl
 have hKl:∀j,(K j).length≤2+j:=fun j=>by rw[hK];simp only[dF,List.length_take,List.length_cons,List.length_nil];omega
 have hKs:∀(j:Nat) (u v:UInt8),BX[j]?=some u→BY[j]?=some v→K (j+1)=K j++[(((u.toNat:Nat):Int),((v.toNat:Nat):Int))]:=fun j u v hu hv=>by
  rw[hK];simp only;rw[List.take_add_one,U5 hu hv];simp
 have hKe:∀j,(oC BX BY).length≤j→KS=K j++[((xn:Int),(yn:Int))]:=fun j hj=>by
  rw[hK,bM.out.2];simp only;rw[List.take_of_length_le hj,yF.out.1,HYE.out.1];rfl
 have HK:=ah (And.intro hK0 (And.intro hKl (And.intro hKs hKe)));clear hK hK0 hKl hKs hKe
 go_upto_block 0 with (fail)
 go_cut [9] from 33 to 58 (fun ov wx=>∃(k:Nat) (a':Option Addr) (n' c':Nat),ov=.slice a' n' c'∧Hid (n'=(K k).length∧(oC BX BY).length≤k∧k≤1073741824)∧Sat W wx (sep (aT 100 2 a' n' c' (wQ (K k))) (sep (kn J2) X)))
 case first=>
  as_aux_lemma=>
  go_wp2_with fail
  go_loopw [9,10] (fun ov kv wr=>∃(k:Nat) (a':Option Addr) (n' c':Nat) (vs:List Value),ov=.slice a' n' c'∧kv=.int .i64 k∧k≤xn∧Hid (n'=(K k).length∧vs=wQ (K k)∧k≤yn)∧Sat W wr (sep (aT 100 2 a' n' c' vs) (sep (kn J2) X))) (fun _ kv _=>xn-(intOf kv).toNat)
  case atStart=>exact⟨0,_,2,2,_,rfl,rfl,by omega,ah ⟨by rw[HK.out.1];rfl,by rw[HK.out.1],by omega⟩,HO.out⟩
  case round=>
   obtain⟨k,a',n',c',vs',rfl,rfl,hk,HVV,hS⟩:=hrel;clear HO
   by_cases hlx:k<xn
   ·have adX:(k:Int)<(xn:Int):=by omega
    by_cases hly:k<yn
    ·have adY:(k:Int)<(yn:Int):=by omega
     obtain⟨u,hu⟩:∃u,BX[k]?=some u:=⟨_,List.getElem?_eq_getElem (by have:=yF.out.1;omega)⟩
     obtain⟨v,hv⟩:∃v,BY[k]?=some v:=⟨_,List.getElem?_eq_getElem (by have:=HYE.out.1;omega)⟩
     obtain⟨bx,ox,hxa,hcx⟩:=yF.out.2 k u hu;obtain⟨by',oy,hya,hcy⟩:=HYE.out.2 k v hv;subst hxa hya;have j0:=hcx wr hS.p1.ext;have j1:=hcy wr hS.p1.ext;have abX:=u.toNat_lt;have ab1:=v.toNat_lt;obtain⟨un,hun⟩:∃n:Nat,n=u.toNat:=⟨_,rfl⟩
     obtain⟨vn,hvn⟩:∃n:Nat,n=v.toNat:=⟨_,rfl⟩
     unfold bv at j0 j1;rw[←hun] at j0 abX;rw[←hvn] at j1 ab1;have pI:Hid (K (k+1)=K k++[((un:Int),(vn:Int))]∧k<xn∧k<yn):=ah ⟨by rw[HK.out.2.2.1 k u v hu hv,hun,hvn],hlx,hly⟩;have hnb:n'≤2+k:=by rw[HVV.out.1];exact HK.out.2.1 k
     have HNB:=ah hnb;have hd:=hS.drew;have j0':wr.drew.cell? ⟨bx,ox+k,none⟩=some (.int .u8 (un:Int)):=j0;have j1':wr.drew.cell? ⟨by',oy+k,none⟩=some (.int .u8 (vn:Int)):=j1;obtain⟨wd,hwd⟩:=aB (wr.drew);rw[←hwd] at hd j0' j1';have oD:=ah hwd;have hbs:=X8 wd (un:Int) (vn:Int);have hAl:=hd.alloc (.cells #[.int .i64 (un:Int),.int .i64 (vn:Int)] 100);obtain⟨M,hM⟩:=aB (wd.heap.size);obtain⟨w5,hw5⟩:=aB (wd.alloc (.cells #[.int .i64 (un:Int),.int .i64 (vn:Int)] 100));rw[←hM,←hw5] at hbs hAl;have hAp:Sat W w5 (sep (aT 100 2 a' n' c' vs') (sep (blk M (.cells #[.int .i64 (un:Int),.int .i64 (vn:Int)] 100 (0,0))) (sep (kn J2) X))):=dJ hAl;have hsrc:∀b,some (⟨M,0,none⟩:Addr)=some b→∀j u,(wQ [((un:Int),(vn:Int))])[j]?=some u→w5.cell? (b.add j)=some u:=by
      intro b hb j u hu;cases hb;rw[show (⟨M,0,none⟩:Addr).add j=⟨M,j,none⟩ by unfold Addr.add;split<;>simp_all,hAl.cell j]
      match j,hu with
      | 0,hu|1,hu=>simp[wQ] at hu;subst hu;rfl
      | j+2,hu=>simp[wQ] at hu
     have jX:=ah hsrc;have Xy:=ah hAp;clear hwd hu hv hcx hcy hun hvn hnb hd hM hAl hAp hsrc hlx hly hk hS j0 j1
     go_upto_region 7 with (fail)
     refine aG rfl (fun _=>True) [(0,.p),(1,.p),(2,.p),(3,.p),(4,.t),(5,.p),(6,.p),(7,.p),(8,.p),(9,.t),(10,.p),(11,.p),(12,.e false),(13,.e false),(14,.p)] (by kernel_rfl) ?_;rw[←oD.out];have hS0:True:=trivial;refine bF ?_;have hc1:IntKind.i64.wrap (un:Int)=(un:Int):=IntWalk.i64_in _ (by omega);have hc2:IntKind.i64.wrap (vn:Int)=(vn:Int):=IntWalk.i64_in _ (by omega)
     try rw[hc1,hc2]
     (refine jH rfl rfl (fun K hK=>?_);go_simp)
     try rw[←hw5]
     clear hbs hw5 j0' j1';refine dQ ?_;clear hK K;refine jH rfl rfl (fun K hK=>?_);refine jC (.tmp 45) (.tmp 57) 101 rfl 100 2 16 (.agg #[.int .i64 0,.int .i64 0]) Tryz.underlying101 Ih rfl rfl Xy.out rfl (wQ [((un:Int),(vn:Int))]) rfl (fun e=>by cases e) jX.out (P5 _) (by have:=HNB.out;have:=Jf.out.1;have:=pI.out.2.1;omega) (by have:=HNB.out;have:=Jf.out.1;have:=pI.out.2.1;unfold maxLen;omega) ?_;intro a6 c6 w6 h6;have h7:Sat W w6 (sep (aT 100 2 a6 (n'+1) c6 (vs'++wQ [((un:Int),(vn:Int))])) (sep (kn J2) X)):=by
      exact Sat.drop (dJ h6:Sat W w6 (sep (blk M (.cells #[.int .i64 (un:Int),.int .i64 (vn:Int)] 100 (0,0))) (sep (aT 100 2 a6 (n'+1) c6 (vs'++wQ [((un:Int),(vn:Int))])) (sep (kn J2) X))))
     obtain⟨cs,hcs⟩:=aB (vs'++wQ [((un:Int),(vn:Int))]);rw[←hcs] at h7;have nD:=ah hcs;have H7:=ah h7;clear h6 h7 Xy jX hcs;refine dQ ?_;clear hK K;refine bF ?_;refine dN ?_
     go_wp2_with fail
     go_roundw
     case rel=>
      refine⟨k+1,a6,n'+1,c6,cs,rfl,by go_num,by have:=pI.out.2.1;omega,ah ⟨?_,?_,by have:=pI.out.2.2;omega⟩,H7.out⟩
      ·rw[pI.out.1,dF,HVV.out.1];rfl
      ·rw[pI.out.1,PY,nD.out,HVV.out.2.1]
     case measure=>simp[intOf];have:=pI.out.2.1;omega
    ·have adY:¬(k:Int)<(yn:Int):=by omega
     have HF:Hid (n'=(K k).length∧(oC BX BY).length≤k∧k≤1073741824):=ah ⟨HVV.out.1,by rw[L9,←yF.out.1,←HYE.out.1];omega,by have:=Jf.out.1;omega⟩;have hS':Sat W wr (sep (aT 100 2 a' n' c' (wQ (K k))) (sep (kn J2) X)):=by rw[←HVV.out.2.1];exact hS
     have HS:=ah hS';clear hS hS' hlx hly hk HVV
     go_wp2
     go_meet
     case rel=>exact⟨k,a',n',c',rfl,HF,HS.out⟩
   ·have adX:¬(k:Int)<(xn:Int):=by omega
    have HF:Hid (n'=(K k).length∧(oC BX BY).length≤k∧k≤1073741824):=ah ⟨HVV.out.1,by rw[L9,←yF.out.1,←HYE.out.1];omega,by have:=Jf.out.1;omega⟩;have hS':Sat W wr (sep (aT 100 2 a' n' c' (wQ (K k))) (sep (kn J2) X)):=by rw[←HVV.out.2.1];exact hS
    have HS:=ah hS';clear hS hS' hlx hk HVV
    go_wp2
    go_meet
    case rel=>exact⟨k,a',n',c',rfl,HF,HS.out⟩
 clear HO;obtain⟨k,a',n',c',rfl,HF,hS⟩:=hcut;have abk:=HK.out.2.2.2 k HF.out.2.1;have hnb:n'≤1073741826:=by rw[HF.out.1];have:=HK.out.2.1 k;have:=HF.out.2.2;omega
 have HNB:=ah hnb;have hbs:=X8 wc (xn:Int) (yn:Int);have hAl:=hS.alloc (.cells #[.int .i64 (xn:Int),.int .i64 (yn:Int)] 100);obtain⟨M,hM⟩:=aB (wc.heap.size);obtain⟨w5,hw5⟩:=aB (wc.alloc (.cells #[.int .i64 (xn:Int),.int .i64 (yn:Int)] 100));rw[←hM,←hw5] at hbs hAl;have hAp:Sat W w5 (sep (aT 100 2 a' n' c' (wQ (K k))) (sep (blk M (.cells #[.int .i64 (xn:Int),.int .i64 (yn:Int)] 100 (0,0))) (sep (kn J2) X))):=dJ hAl;have hsrc:∀b,some (⟨M,0,none⟩:Addr)=some b→∀j u,(wQ [((xn:Int),(yn:Int))])[j]?=some u→w5.cell? (b.add j)=some u:=by
  intro b hb j u hu;cases hb;rw[show (⟨M,0,none⟩:Addr).add j=⟨M,j,none⟩ by unfold Addr.add;split<;>simp_all,hAl.cell j]
  match j,hu with
  | 0,hu|1,hu=>simp[wQ] at hu;subst hu;rfl
  | j+2,hu=>simp[wQ] at hu
 have jX:=ah hsrc;have HKS:=ah abk;obtain⟨vs',hvs'⟩:=aB (wQ (K k));rw[←hvs'] at hAp;have sH:=ah hvs';clear hS hM hAl hsrc hnb abk hvs'
 go_wp2_with (at_builtin;((try rw[←hw5]);refine aJ rfl (.tmp 59) (.tmp 65) 101 rfl 100 2 16 (.agg #[.int .i64 0,.int .i64 0]) Tryz.underlying101 Ih rfl rfl hAp rfl (wQ [((xn:Int),(yn:Int))]) rfl (fun e=>by cases e) jX.out (P5 _) (by have:=HNB.out;omega) (by have:=HNB.out;unfold maxLen;omega) ?_))
 intro a6 c6 w6 h6;have h7:Sat W w6 (sep (aT 100 2 a6 (n'+1) c6 (wQ KS)) (sep (kn J2) X)):=by
  have h8:Sat W w6 (sep (blk M (.cells #[.int .i64 (xn:Int),.int .i64 (yn:Int)] 100 (0,0))) (sep (aT 100 2 a6 (n'+1) c6 (vs'++wQ [((xn:Int),(yn:Int))])) (sep (kn J2) X))):=dJ h6;rw[HKS.out,PY,←sH.out];exact h8.drop
 have hm:n'+1=KS.length:=by rw[HKS.out,dF,HF.out.1];rfl
 obtain⟨m,hmm⟩:=aB (n'+1);rw[←hmm] at h7 hm ⊢;have hm63:m≤1073741827:=by have:=HNB.out;omega
 obtain⟨g,rfl⟩:∃g,a6=some ⟨g,0,none⟩:=by
  rcases h7.gJ with ⟨e1,e2,-⟩|⟨g,cur,e1,-⟩
  ·omega
  ·exact⟨g,e1⟩
 have HM:=ah hm;have H7:=ah h7;clear h6 h7 hAp hbs hw5 jX hmm hm
 go_wp2_with fail
 go_loopw [11] (fun kv wr=>∃(i:Nat),kv=.int .i64 i∧i≤m∧Hid (qR (KS.drop i)=rv)∧Sat W wr (sep (aT 100 2 (some ⟨g,0,none⟩) m c6 (wQ KS)) (sep (kn J2) X))) (fun kv _=>m-(intOf kv).toNat)
 case atStart=>exact⟨0,rfl,by omega,ah (by rw[bM.out.1];rfl),H7.out⟩
 case round=>
  obtain⟨i,rfl,hi,HLX,hS⟩:=hrel;clear H7
  by_cases hlt:i<m
  ·have hltz:(i:Int)<(m:Int):=by omega
   obtain⟨p,hp⟩:∃p,KS[i]?=some p:=⟨_,List.getElem?_eq_getElem (by have:=HM.out;omega)⟩
   obtain⟨u,v⟩:=p;obtain⟨g0,g1⟩:=PZ hp;obtain⟨g',e',hcell⟩:=hS.DI (fun e=>by rw[e] at g0;simp at g0);cases e';have j0:=hcell _ _ g0;have j1:=hcell _ _ g1;have hL:=HLX.out;rw[QW hp] at hL;have HL:=ah hL;have HI:=ah hlt;have HS:=ah hS;have hd:=hS.drew;have HD:=ah hd;have HD2:=ah hd.drew;have HFD:=ah (HX1.out _ _ hd.drop).drop.drop;have ac1:=ah (HX1.out _ _ hd.drew.drop).drop.drop;have j0':wr.drew.cell? ⟨g,i*2,none⟩=some (.int .i64 u):=j0;have j1':wr.drew.cell? ⟨g,i*2+1,none⟩=some (.int .i64 v):=j1;have ahK:wr.drew.drew.cell? ⟨g,i*2,none⟩=some (.int .i64 u):=j0;have j1'':wr.drew.drew.cell? ⟨g,i*2+1,none⟩=some (.int .i64 v):=j1;clear hp g0 g1 hL hlt hi hcell hd hS HLX j0 j1
   by_cases h1:u<v
   ·have HF:Hid (rv=-1):=ah (by rw[←HL.out];exact if_pos h1)
    go_upto_region 12 with (fail)
    refine aG rfl (fun _=>True) [(0,.p),(1,.p),(2,.p),(3,.p),(4,.t),(5,.p),(6,.p),(7,.p),(8,.p),(9,.t),(10,.p)] (by kernel_rfl) ?_;have hS0:True:=trivial;refine bF ?_
    try rw[show decide (u<v)=true from decide_eq_true h1]
    refine dN ?_;clear h1
    go_wp2
    rw[bI.out];exact⟨J2,by rw[HF.out];try rfl,HJ2.out,HFD.out⟩
   ·have hb1:decide (u<v)=false:=decide_eq_false h1
    go_upto_region 12 with (fail)
    refine aG rfl (fun _=>True) [(0,.p),(1,.p),(2,.p),(3,.p),(4,.t),(5,.p),(6,.p),(7,.p),(8,.p),(9,.t),(10,.p)] (by kernel_rfl) ?_;have hS0:True:=trivial;refine bF ?_
    try rw[hb1]
    refine dN ?_
    by_cases h2:v<u
    ·have HF:Hid (rv=1):=ah (by rw[←HL.out];rw[if_neg h1];exact if_pos h2)
     have hb2:decide (v<u)=true:=decide_eq_true h2;clear h1 h2 hb1
     go_upto_region 14 with (fail)
     refine aG rfl (fun _=>True) [(0,.p),(1,.p),(2,.p),(3,.p),(4,.t),(5,.p),(6,.p),(7,.p),(8,.p),(9,.t),(10,.p)] (by kernel_rfl) ?_;have hS0:True:=trivial;refine bF ?_
     try rw[hb2]
     refine dN ?_;clear hb2
     go_wp2
     rw[bI.out];exact⟨J2,by rw[HF.out];try rfl,HJ2.out,ac1.out⟩
    ·have HF:Hid (qR (KS.drop (i+1))=rv):=ah (by rw[←HL.out];rw[if_neg h1];exact (if_neg h2).symm)
     have hb2:decide (v<u)=false:=decide_eq_false h2;clear h1 h2 hb1
     go_upto_region 14 with (fail)
     refine aG rfl (fun _=>True) [(0,.p),(1,.p),(2,.p),(3,.p),(4,.t),(5,.p),(6,.p),(7,.p),(8,.p),(9,.t),(10,.p)] (by kernel_rfl) ?_;have hS0:True:=trivial;refine bF ?_
     try rw[hb2]
     refine dN ?_;clear hb2
     go_wp2
     go_roundw
     case rel=>exact⟨i+1,by go_num,by have:=HI.out;omega,HF,HD2.out⟩
     case measure=>simp[intOf];have:=HI.out;omega
  ·obtain rfl:i=m:=by omega
   have HF:Hid (rv=0):=ah (by
    have:=HLX.out;rw[List.drop_of_length_le (by rw[←HM.out];exact Nat.le_refl _)] at this;exact this.symm)
   have HFD:=ah (HX1.out _ _ hS.drop).drop.drop;clear hS hlt hi HLX
   go_wp2
   rw[bI.out];exact⟨J2,by rw[HF.out];try rfl,HJ2.out,HFD.out⟩
end Go.Proofs.YthfmaclnccdcbaaGreatDoor

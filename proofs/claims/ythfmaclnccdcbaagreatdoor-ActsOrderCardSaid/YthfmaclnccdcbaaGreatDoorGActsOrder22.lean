/- Part of a proof. -/
import Derived.Test.YthfmaclnccdcbaaGreatDoorGActsOrder21
import Derived.Test.YthfmaclnccdcbaaGreatDoorGActsOrder6
namespace PA
open Go Go.RowKit
theorem xG {I:Mem} {a:Option Addr} {n c:Nat} {l:List Ea} (h:(MJ.slice 2).rel I [.slice a n c] l) {i:Nat} {x:Ea} (hx:l[i]?=some x):
 ∃b o,a=some ⟨b,o,none⟩∧∀w',Ext I w'→w'.cell? ⟨b,o+i*2,none⟩=some (.int .i64 x.file)∧w'.cell? ⟨b,o+i*2+1,none⟩=some (.int .i64 x.day):=by
 obtain⟨b,o,cs,rfl,hr,-,hc⟩:=lH h hx (by omega);have e:cs=[.int .i64 x.file,.int .i64 x.day]:=hr;subst e;exact⟨b,o,rfl,fun w' he=>⟨hc w' he 0 _ rfl,hc w' he 1 _ rfl⟩⟩
theorem Py {f:Int} {l:List Ea} {j:Nat} {e:Ea} (h:l[j]?=some e):Hr f l j=(aN e.file 0 4095&&(decide (e.file≠f)&&(aN e.day 0 131072&&!((l.take j).any fun g=>decide (g.file=e.file))))):=by
 unfold Hr;rw[h]
theorem Jv {l:List Ea} {k:Nat} {g:Ea} {p:Ea→Bool} (h:l[k]?=some g):(l.take (k+1)).any p=((l.take k).any p||p g):=by
 rw[List.take_add_one,h,List.any_append];simp
end PA
namespace Go.Proofs.YthfmaclnccdcbaaGreatDoor
open Go.RowKit PA
theorem gB {W w:World} {A:aC} {q:Nat} {x:Ac} (h:Sat W w (sep (blk q (.cells x.cells.toArray 36 (0,0))) A)):
 Sem.run Tryz.prog (jA (.pointer (some ⟨q,0,none⟩))) w=.ok (.agg x.cells.toArray) w:=
 jo fun i v hv=>(au h i v hv).1
theorem bG (n lo hi:Int) (w:World):Calls Tryz.prog 60 #[.int .i64 n,.int .i64 lo,.int .i64 hi] w fun e w'=>e=.returned (.bool (aN n lo hi))∧w=w':=by
 obtain⟨r,hr⟩:=aB (aN n lo hi);rw[←hr];have HR:=ah hr;clear hr
 by_cases h1:lo≤n
 ·by_cases h2:n≤hi
  ·have HF:Hid (r=true):=ah (by rw[HR.out];unfold aN;rw[decide_eq_true h1,decide_eq_true h2];rfl)
   go_enter Tryz.func60,Tryz.ntmps60
   go_wp2
   go_ret
   exact⟨by rw[HF.out];try rfl,rfl⟩
  ·have HF:Hid (r=false):=ah (by rw[HR.out];unfold aN;rw[decide_eq_true h1,decide_eq_false h2];rfl)
   go_enter Tryz.func60,Tryz.ntmps60
   go_wp2
   go_ret
   exact⟨by rw[HF.out];try rfl,rfl⟩
 ·have HF:Hid (r=false):=ah (by rw[HR.out];unfold aN;rw[decide_eq_false h1];rfl)
  go_enter Tryz.func60,Tryz.ntmps60
  go_wp2
  go_ret
  exact⟨by rw[HF.out];try rfl,rfl⟩
end Go.Proofs.YthfmaclnccdcbaaGreatDoor
namespace PA
open Go Go.RowKit
def YI (S:Int→Bool) (k:Int):Option Value:=if S k=true then some (.bool true) else none
theorem WY (S:Int→Bool) (k:Int):lM (YI S) k (some (.bool true))=YI (fun i=>S i||i==k):=by
 funext i;unfold lM YI
 by_cases h:i=k
 ·subst h;simp
 ·have e:(i==k)=false:=by simpa using h
  rw[if_neg h];simp only[e,Bool.or_false]
def QV (F:Int) (l:List Ea) (j:Nat) (k:Int):Bool:=k==F||(l.take j).any fun g=>decide (g.file=k)
theorem WZ {F:Int} {l:List Ea} {j:Nat} {e:Ea} (h:l[j]?=some e):(fun i=>QV F l j i||i==e.file)=QV F l (j+1):=by
 funext i;unfold QV;rw[Jv h,Bool.or_assoc];congr 2
 by_cases hi:i=e.file
 ·rw[hi];simp
 ·have e1:(i==e.file)=false:=by simpa using hi
  rw[e1,decide_eq_false (Ne.symm hi)]
theorem Wx {F:Int} {l:List Ea} {j:Nat} {e:Ea} (h:l[j]?=some e):(QV F l j e.file||(!aN e.file 0 4095||!aN e.day 0 131072))=!Hr F l j:=by
 rw[Py h];unfold QV
 by_cases hF:e.file=F
 ·rw[hF];simp
 ·have e1:(e.file==F)=false:=by simpa using hF
  rw[e1,decide_eq_true hF];cases (List.take j l).any fun g=>decide (g.file=e.file)<;>cases aN e.file 0 4095<;>cases aN e.day 0 131072<;>rfl
def QK (x:Pa):Bool:=aN x.q (-1) 4095&&(decide (x.q≠x.f)&&(decide (x.ea.length≤8)&&(decide (ED x.td x.tc=0)&&lK x.f x.ea x.ea.length)))
structure SzM (x:Pa):Prop where
 td:∀f∈x.td,Go.Proofs.YthfmaclnccdcbaaGreatDoor.Jk f
 tc:∀c∈x.tc,Go.Proofs.YthfmaclnccdcbaaGreatDoor.Jk c.body
 cl:∀c∈x.cl,Go.Proofs.YthfmaclnccdcbaaGreatDoor.Jk c.body
 fx:Go.Proofs.YthfmaclnccdcbaaGreatDoor.Jk x.fx
 sh:Go.Proofs.YthfmaclnccdcbaaGreatDoor.SV ⟨x.sn,x.sd⟩
 ln:x.td.length+x.tc.length+x.fx.ins.length+x.fx.kids.length≤4000000
end PA
namespace Go.Proofs.YthfmaclnccdcbaaGreatDoor
open Go.RowKit PA
theorem U3 (w:World):(zeroValue 4).run Tryz.prog w=.ok (.bool false) w:=by kernel_rfl
def N8 (KC mb:Nat) (S:Int→Bool) (n:Nat):aC:=sep (blk KC (.cells #[.map (some mb)] 144 (0,0))) (wB mb (YI S) n)
set_option maxRecDepth 100000 in
set_option maxHeartbeats 4000000 in
theorem Nv {W w:World} {A:aC} (KC mb:Nat) (S:Int→Bool) (n:Nat) (fl dy:Int) (h:Sat W w (sep (N8 KC mb S n) A)):
 Calls Tryz.prog 158 #[.agg #[.int .i64 fl,.int .i64 dy],.pointer (some ⟨KC,0,none⟩)] w fun e w'=>e=.returned (.bool (S fl||(!aN fl 0 4095||!aN dy 0 131072)))∧∃n',Sat W w' (sep (N8 KC mb (fun i=>S i||i==fl) n') A):=by
 unfold N8 at h;rw[aj] at h;have h1:=h.alloc (.cells #[.int .i64 fl,.int .i64 dy] 93);obtain⟨B,hB⟩:=aB (w.heap.size);obtain⟨w1,hw1⟩:=aB (w.alloc (.cells #[.int .i64 fl,.int .i64 dy] 93));rw[←hB,←hw1] at h1;have HB:=ah (And.intro hB hw1);obtain⟨b0,hb0⟩:=aB (S fl);obtain⟨b1,hb1⟩:=aB (aN fl 0 4095);obtain⟨b2,hb2⟩:=aB (aN dy 0 131072);have C1:Hid (∀w',Calls Tryz.prog 60 #[.int .i64 fl,.int .i64 0,.int .i64 4095] w' fun e w''=>e=.returned (.bool b1)∧w'=w''):=ah fun w'=>by rw[hb1];exact bG _ _ _ w'
 have C2:Hid (∀w',Calls Tryz.prog 60 #[.int .i64 dy,.int .i64 0,.int .i64 131072] w' fun e w''=>e=.returned (.bool b2)∧w'=w''):=ah fun w'=>by rw[hb2];exact bG _ _ _ w'
 have hlk:=Au (P:=Tryz.prog) (T:=144) Tryz.underlying144 Tryz.underlying3 U3 h1.p2 fl false;have e0:(YI S fl).getD (.bool false)=.bool b0:=by unfold YI;rw[←hb0];cases b0<;>rfl
 rw[e0] at hlk;simp only[Bool.false_eq_true,if_false] at hlk;obtain⟨w2,n',hup,-,h3⟩:=lT (P:=Tryz.prog) (T:=144) Tryz.underlying144 Tryz.underlying3 h1.p2 fl (.bool true);rw[WY] at h3;have k0:w1.cell? ⟨B,0,none⟩=some (.int .i64 fl):=h1.cell 0;have kc:w1.cell? ⟨KC,0,none⟩=some (.map (some mb)):=h1.p1.cell 0;have H3:Hid (Sat W w2 (sep (blk B (.cells #[.int .i64 fl,.int .i64 dy] 93 (0,0))) (sep (N8 KC mb (fun i=>S i||i==fl) n') A))):=ah (by unfold N8;simpa only[aA,ay,aj] using h3);rw[←hb0,←hb1,←hb2];obtain⟨Po,dU⟩:∃P:Ending→World→Prop,P=fun e w'=>e=.returned (.bool (b0||(!b1||!b2)))∧∃n',Sat W w' (sep (N8 KC mb (fun i=>S i||i==fl) n') A):=⟨_,rfl⟩
 rw[←dU];have bI:=ah dU;clear h h1 h3 hB hw1 e0 hb0 hb1 hb2 dU
 go_enter Tryz.func158,Tryz.ntmps158
 go_upto_region 1 with (fail)
 rw[←HB.out.1,←HB.out.2]
 go_upto_region 3 with (fail)
 clear k0 kc hlk hup;have k0:w2.cell? ⟨B,0,none⟩=some (.int .i64 fl):=H3.out.cell 0;have k1:w2.cell? ⟨B,1,none⟩=some (.int .i64 dy):=H3.out.cell 1;have HF:=ah (Exists.intro (p:=fun n'=>Sat W w2 (sep (N8 KC mb (fun i=>S i||i==fl) n') A)) n' H3.out.forget);clear H3;cases b0 with
 | true=>
  go_wp2
  rw[bI.out];exact⟨rfl,HF.out⟩
 | false=>
  go_wp2_with fail
  refine (C1.out _).mono ?_;rintro e w3 ⟨rfl,rfl⟩;cases b1 with
  | false=>
   go_wp2
   rw[bI.out];exact⟨rfl,HF.out⟩
  | true=>
   go_wp2_with fail
   refine (C2.out _).mono ?_;rintro e w3 ⟨rfl,rfl⟩
   go_wp2
   rw[bI.out];exact⟨by cases b2<;>rfl,HF.out⟩
set_option maxRecDepth 100000 in
set_option maxHeartbeats 4000000 in
theorem Ht {W w:World} {A:aC} {I:Mem} (KC mb:Nat) (F:Int) (n0:Nat) (a:Option Addr) (n c:Nat) (l:List Ea) (hv:(MJ.slice 2).rel I [.slice a n c] l) (h:Sat W w (sep (N8 KC mb (QV F l 0) n0) (sep (kn I) A))):
 Calls Tryz.prog 196 #[.slice a n c,.func (.func 158) #[] #[.pointer (some ⟨KC,0,none⟩)]] w fun e w'=>(∃r:Int,e=.returned (.int .i64 r)∧decide (0≤r)=!lK F l l.length)∧Sat W w' (sep (kn I) A):=by
 have hn:=(aI hv).1;have hn63:=(aI hv).2.2;obtain⟨Po,dU⟩:∃P:Ending→World→Prop,P=fun e w'=>(∃r:Int,e=.returned (.int .i64 r)∧decide (0≤r)=!lK F l l.length)∧Sat W w' (sep (kn I) A):=⟨_,rfl⟩
 rw[←dU];have bI:=ah dU;have HX:=ah (And.intro hv hn);have H:=ah h;have HD:Hid (∀w' S m,Sat W w' (sep (N8 KC mb S m) (sep (kn I) A))→Sat W w' (sep (kn I) A)):=ah fun w' S m h'=>by
  unfold N8 at h';rw[aj] at h';obtain⟨es,cl,-,-,-,h9⟩:=h'.forget.mF;exact h9.forget
 clear hv h hn dU
 go_enter Tryz.func196,Tryz.ntmps196
 go_wp2
 go_loopw [8] (fun iv wr=>∃(i m:Nat),iv=.int .i64 i∧i≤n∧Hid (lK F l i=true)∧Sat W wr (sep (N8 KC mb (QV F l i) m) (sep (kn I) A))) (fun iv _=>n-(intOf iv).toNat)
 case atStart=>exact⟨0,n0,rfl,by omega,ah rfl,H.out⟩
 case round=>
  obtain⟨i,m,rfl,hi,HT,hS⟩:=hrel;clear H
  by_cases hlt:i<n
  ·have hltz:(i:Int)<(n:Int):=by omega
   obtain⟨e,he⟩:∃e,l[i]?=some e:=⟨_,List.getElem?_eq_getElem (by have:=HX.out.2;omega)⟩
   obtain⟨b,o,rfl,hcell⟩:=xG HX.out.1 he;obtain⟨j0,j1⟩:=hcell wr hS.p1.ext;have hcall:=Nv KC mb (QV F l i) m e.file e.day hS;rw[Wx he,WZ he] at hcall;obtain⟨be,hbe⟩:=aB (Hr F l i);rw[←hbe] at hcall;have HC:=ah hcall;have HE:=ah (And.intro hbe hlt);obtain⟨ef,hef⟩:=aB (e.file);obtain⟨ed,hed⟩:=aB (e.day);rw[←hef] at j0 HC;rw[←hed] at j1 HC;clear hcell he hS hcall hbe hlt hi hef hed
   go_wp2_with fail
   refine HC.out.mono ?_;rintro e' w2 ⟨rfl,m',h2⟩;clear j0 j1 HC;cases be with
   | true=>
    have H2:=ah h2;have HN:Hid (lK F l (i+1)=true):=ah (by rw[FM,HT.out,←HE.out.1];rfl);clear h2
    go_wp2
    go_roundw
    case rel=>exact⟨i+1,m',by go_num,by have:=HE.out.2;omega,HN,H2.out⟩
    case measure=>simp[intOf];have:=HE.out.2;omega
   | false=>
    have HF:Hid (lK F l l.length=false):=ah (JJ (by have:=HX.out.2;have:=HE.out.2;omega) HE.out.1.symm);have H2:=ah (HD.out _ _ _ h2);clear h2
    go_wp2
    rw[bI.out];exact⟨⟨i,rfl,by rw[HF.out,decide_eq_true (by omega)];rfl⟩,H2.out⟩
  ·obtain rfl:i=n:=by omega
   have HF:Hid (lK F l l.length=true):=ah (by rw[←HX.out.2];exact HT.out);have H2:=ah (HD.out _ _ _ hS);clear hS hlt hi
   go_wp2
   rw[bI.out];exact⟨⟨-1,rfl,by rw[HF.out];rfl⟩,H2.out⟩
theorem JK {W w:World} {A:aC} {I:Mem} (KC mb:Nat) (F:Int) (n0:Nat) (a:Option Addr) (n c:Nat) (l:List Ea) (hv:(MJ.slice 2).rel I [.slice a n c] l) (h:Sat W w (sep (N8 KC mb (QV F l 0) n0) (sep (kn I) A))):
 Calls Tryz.prog 157 #[.slice a n c,.func (.func 158) #[] #[.pointer (some ⟨KC,0,none⟩)]] w fun e w'=>e=.returned (.bool (!lK F l l.length))∧Sat W w' (sep (kn I) A):=by
 have HI:=ah (Ht KC mb F n0 a n c l hv h);obtain⟨rv,dK⟩:=aB (!lK F l l.length);rw[←dK] at HI ⊢;clear hv h dK
 go_enter Tryz.func157,Tryz.ntmps157
 go_wp2_with fail
 refine HI.out.mono ?_;rintro e w2 ⟨⟨r,rfl,hr⟩,h2⟩;have H2:=ah h2;have HR:=ah hr;clear h2 HI hr
 go_wp2
 go_ret
 exact⟨by first|exact congrArg (fun b=>Ending.returned (.bool b)) HR.out|simp[←HR.out],H2.out⟩
attribute [local go_sem ↓] bW dB aY
set_option maxRecDepth 100000 in
set_option maxHeartbeats 8000000 in
theorem Ik {W w:World} {A:aC} {I:Mem} (z:Ac) (x:Pa) (hA:kX I z x) (hz:SzM x) (h:Sat W w (sep (kn I) A)):
 Calls Tryz.prog 116 #[.agg z.cells.toArray] w fun e w'=>∃J,e=.returned (.bool (QK x))∧Mem.le I J∧Sat W w' (sep (kn J) A):=by
 have h1:=(h.alloc (.cells z.cells.toArray 36)).p1;obtain⟨B,hB⟩:=aB (w.heap.size);obtain⟨w1,hw1⟩:=aB (w.alloc (.cells z.cells.toArray 36));rw[←hB,←hw1] at h1;have HB:=ah (And.intro hB hw1);obtain⟨b3,hb3⟩:=aB (aN z.q (-1) 4095);obtain⟨te,hte⟩:=aB (ED x.td x.tc);obtain⟨ne,hne⟩:=aB (z.ea.n);obtain⟨rv,dK⟩:=aB (QK x);have Df:ne=x.ea.length:=by rw[hne];exact (aI hA.ea).1
 have ji:rv=(b3&&(decide (z.q≠z.f)&&(decide (ne≤8)&&(decide (te=0)&&lK z.f x.ea x.ea.length)))):=by
  rw[dK,hb3,hte,Df,hA.q,hA.f];rfl
 have bM:=ah ji;have C3:Hid (∀w',Calls Tryz.prog 60 #[.int .i64 z.q,.int .i64 (-1),.int .i64 4095] w' fun e w''=>e=.returned (.bool b3)∧w'=w''):=ah fun w'=>by rw[hb3];exact bG _ _ _ w'
 have C4:Hid (∀w' A',Sat W w' (sep (kn I) A')→Calls Tryz.prog 128 #[.agg #[.slice z.td.a z.td.n z.td.c,.slice z.tc.a z.tc.n z.tc.c]] w' fun e w''=>∃J,e=.returned (.int .i64 te)∧Mem.le I J∧Sat W w'' (sep (kn J) A')):=ah fun w' A' h'=>by
  rw[hte];exact xQ z.td.a z.td.n z.td.c z.tc.a z.tc.n z.tc.c x.td x.tc hA.td hA.tc hz.td hz.tc h'
 have RI:=ah (And.intro hA.ea Df);have k3:=(au h1.p1 3 _ rfl).1;have k6:=(au h1.p1 6 _ rfl).1;have k11:=(au h1.p1 11 _ rfl).1;have k12:=(au h1.p1 12 _ rfl).1;have k14:=(au h1.p1 14 _ rfl).1;have aeu:(ne:Int)≤9223372036854775807:=by rw[hne];exact (aI hA.ea).2.2
 have Am:w1.cell? ⟨B,14,none⟩=some (.slice z.ea.a ne z.ea.c):=by rw[hne];exact k14
 have Vu:=ah hne;have H1:=ah h1;rw[←dK];obtain⟨Po,dU⟩:∃P:Ending→World→Prop,P=fun e w'=>∃J,e=.returned (.bool rv)∧Mem.le I J∧Sat W w' (sep (kn J) A):=⟨_,rfl⟩
 rw[←dU];have bI:=ah dU;have hmf:∀(fn:Fn) (first cap:Array Value) (w:World),(Instr.makeFunc fn first cap).run Tryz.prog w=.ok (.func fn first cap) w:=fun _ _ _ _=>rfl
 have hmm:=@run_makeMap Tryz.prog;clear hA hz h h1 hB hw1 hb3 hte hne dK ji Df k14 dU
 go_enter Tryz.func116,Tryz.ntmps116
 go_upto_region 1 with (fail)
 rw[←HB.out.1,←HB.out.2];cases b3 with
 | false=>
  have HF:Hid (rv=false):=ah (by rw[bM.out];rfl)
  go_wp2_with fail
  refine (C3.out _).mono ?_;rintro e w2 ⟨rfl,rfl⟩
  go_wp2
  rw[bI.out];exact⟨I,by (rw[HF.out];try rfl),Mem.le_refl _,H1.out.p1.drop⟩
 | true=>
  go_wp2_with fail
  refine (C3.out _).mono ?_;rintro e w2 ⟨rfl,rfl⟩
  by_cases WT:z.q=z.f
  ·have HF:Hid (rv=false):=ah (by rw[bM.out,WT];simp)
   have hqb:(z.q==z.f)=true:=by simpa using WT
   clear WT
   go_wp2
   rw[bI.out];exact⟨I,by (rw[HF.out];try rfl),Mem.le_refl _,H1.out.p1.drop⟩
  ·have hqb:(z.q==z.f)=false:=by simpa using WT
   by_cases h8:8<ne
   ·have HF:Hid (rv=false):=ah (by rw[bM.out,decide_eq_false (show ¬ne≤8 by omega)];simp)
    have h8z:(8:Int)<(ne:Int):=by omega
    clear WT h8
    go_wp2
    rw[bI.out];exact⟨I,by (rw[HF.out];try rfl),Mem.le_refl _,H1.out.p1.drop⟩
   ·have h8z:¬(8:Int)<(ne:Int):=by omega
    have HR2:Hid (rv=(decide (te=0)&&lK z.f x.ea x.ea.length)):=ah (by rw[bM.out,decide_eq_true (show ne≤8 by omega),decide_eq_true WT];simp);clear WT h8
    go_wp2_with fail
    refine (C4.out _ _ H1.out).mono ?_;rintro e w2 ⟨J,rfl,hle,h2⟩;have H2:=ah h2;have jr:=ah hle;clear k3 k6 k11 k12 Am h2 hle C4 C3
    by_cases ht0:te=0
    ·subst ht0
     have k3:=(au H2.out.p1 3 _ rfl).1;have h3:Sat W w2 (sep (kn J) (sep (blk B (.cells z.cells.toArray 36 (0,0))) A)):=H2.out;have h4:=h3.JB;obtain⟨mb,hmb⟩:=aB (w2.heap.size);obtain⟨w3,hw3⟩:=aB (w2.alloc (.map #[] 0));rw[←hmb,←hw3] at h4;obtain⟨w4,n',hup,-,h5⟩:=lT (P:=Tryz.prog) (T:=144) Tryz.underlying144 Tryz.underlying3 h4 z.f (.bool true);have ek:lM (fun _=>none) z.f (some (.bool true))=YI (QV z.f x.ea 0):=by
      funext k;unfold lM YI QV
      by_cases hk:k=z.f
      ·subst hk;simp
      ·have e1:(k==z.f)=false:=by simpa using hk
       rw[if_neg hk,e1];simp
     rw[ek] at h5;have h6:=h5.alloc (.cells #[.map (some mb)] 144);obtain⟨KC,hKC⟩:=aB (w4.heap.size);obtain⟨w5,hw5⟩:=aB (w4.alloc (.cells #[.map (some mb)] 144));rw[←hKC,←hw5] at h6;have h7:Sat W w5 (sep (N8 KC mb (QV z.f x.ea 0) n') (sep (kn J) (sep (blk B (.cells z.cells.toArray 36 (0,0))) A))):=by unfold N8;rw[aj];exact h6
     have k14:=(au (show Sat W w5 (sep (blk B (.cells z.cells.toArray 36 (0,0))) (sep (N8 KC mb (QV z.f x.ea 0) n') (sep (kn J) A))) by simpa only[aA,ay,aj] using h7) 14 _ rfl).1;have Am:w5.cell? ⟨B,14,none⟩=some (.slice z.ea.a ne z.ea.c):=by rw[Vu.out];exact k14
     have HC:=ah (JK KC mb z.f n' z.ea.a ne z.ea.c x.ea (by rw[Vu.out];exact (MJ.slice 2).mono jr.out RI.out.1) h7);have HW:=ah (And.intro hmb (And.intro hw3 (And.intro hKC hw5)));have HR3:Hid (rv=lK z.f x.ea x.ea.length):=ah (by rw[HR2.out];rfl);obtain⟨et,het⟩:=aB (lK z.f x.ea x.ea.length);rw[←het] at HC HR3;have abZ:=hup;have k3a:=(au h4.p2 3 _ rfl).1;rw[hmb,hw3] at abZ;rw[hw3] at k3a;clear h3 h4 h5 h6 h7 hmb hw3 hKC hw5 ek k14 H2 H1 het hup
     go_upto_region 4 with (fail)
     rw[←HW.out.1,←HW.out.2.2.1,←HW.out.2.2.2];clear abZ k3 k3a hqb h8z
     go_wp2_with fail
     refine HC.out.mono ?_;rintro e w6 ⟨rfl,h8⟩;have H8:=ah h8;clear h8 HC Am
     go_wp2
     rw[bI.out];exact⟨J,by (rw[HR3.out];cases et<;>rfl),jr.out,H8.out.p1.drop⟩
    ·have HF:Hid (rv=false):=ah (by rw[HR2.out,decide_eq_false ht0];rfl)
     have ht1:(te !=0)=true:=by simpa using ht0
     have ht2:(te==0)=false:=by simpa using ht0
     clear ht0
     go_wp2
     rw[bI.out];exact⟨J,by (rw[HF.out];try rfl),jr.out,H2.out.p1.drop⟩
end Go.Proofs.YthfmaclnccdcbaaGreatDoor
namespace PA
open Go Go.RowKit
def SF (f:Fm):Prop:=cO f∨∃o n:Int,iK o∧0≤n∧n≤1∧f=.mk o n [] []
theorem SF.zero:SF Fm.zero:=.inr ⟨0,0,⟨by omega,by omega⟩,by omega,by omega,rfl⟩
theorem SF.enc {f:Fm} (h:SF f):f.n64∧(bZ f).length≤440:=by
 rcases h with h|⟨o,n,ho,h1,h2,rfl⟩
 ·exact jO h
 ·refine⟨by rw[Fm.n64];exact⟨ho,⟨by omega,by omega⟩,by simp,by rw[Fm.Dx];trivial⟩,?_⟩
  have:=pU (o:=o) (n:=n) (i:=[]) (k:=[]) ho ⟨by omega,by omega⟩ (by simp) (by simp);simp[dO,eu] at this;omega
theorem SF.ok {f:Fm} (h:SF f):Qi f:=⟨h.enc.1,by have:=h.enc.2;omega⟩
theorem SF.size {f:Fm} (h:SF f):f.size≤Go.Proofs.YthfmaclnccdcbaaGreatDoor.mg:=by
 rcases h with h|⟨o,n,ho,h1,h2,rfl⟩
 ·have:=(CP h).sz
  unfold Go.Proofs.YthfmaclnccdcbaaGreatDoor.mg;omega
 ·simp[Fm.size,Fm.sizes,Go.Proofs.YthfmaclnccdcbaaGreatDoor.mg]
theorem TV {x:Iv} (h:Bf x):Go.Proofs.YthfmaclnccdcbaaGreatDoor.Jg x:=by
 obtain⟨h1,h2,h3,h4,h5⟩:=h;have hh:0≤x.hn∧x.hn≤8∧0≤x.hd∧x.hd≤1:=by
  rcases h5 with ⟨-,e1,e2,-⟩|⟨-,e1,e2,e3⟩
  ·rw[e1,e2];omega
  ·omega
 refine⟨⟨?_,?_,?_,?_⟩,⟨?_,?_,?_,?_⟩⟩<;>simp only[Iv.lw,Iv.up]<;>omega
theorem FT {f:Fm} (h:cO f):(∀g∈f.nodes,∀x∈g.ins,Go.Proofs.YthfmaclnccdcbaaGreatDoor.Jg x)∧f.ins.length≤1∧f.kids.length≤2:=by
 have hc:∀{f:Fm},oG f→(∀g∈f.nodes,∀x∈g.ins,Go.Proofs.YthfmaclnccdcbaaGreatDoor.Jg x)∧f.ins.length≤1∧f.kids.length≤2:=by
  rintro f ⟨n,-,-,rfl⟩;simp[Fm.nodes,Fm.bQ,Fm.ins,Fm.kids]
 have hv:∀{f:Fm},zx f→(∀g∈f.nodes,∀x∈g.ins,Go.Proofs.YthfmaclnccdcbaaGreatDoor.Jg x)∧f.ins.length≤1∧f.kids.length≤2:=by
  rintro f ⟨n,x,-,-,hx,rfl⟩;refine⟨?_,by simp[Fm.ins],by simp[Fm.kids]⟩;intro g hg y hy;simp[Fm.nodes,Fm.bQ] at hg;subst hg;simp[Fm.ins] at hy;subst hy;exact TV hx
 have two:∀{o:Int} {f g:Fm},(∀a∈f.nodes,∀x∈a.ins,Go.Proofs.YthfmaclnccdcbaaGreatDoor.Jg x)→(∀a∈g.nodes,∀x∈a.ins,Go.Proofs.YthfmaclnccdcbaaGreatDoor.Jg x)→(∀a∈(Fm.mk o 0 [] [f,g]).nodes,∀x∈a.ins,Go.Proofs.YthfmaclnccdcbaaGreatDoor.Jg x)∧(Fm.mk o 0 [] [f,g]).ins.length≤1∧(Fm.mk o 0 [] [f,g]).kids.length≤2:=by
  intro o f g h1 h2;refine⟨?_,by simp[Fm.ins],by simp[Fm.kids]⟩;intro a ha;simp[Fm.nodes,Fm.bQ] at ha;rcases ha with rfl|ha|ha
  ·intro x hx;simp[Fm.ins] at hx
  ·exact h1 a ha
  ·exact h2 a ha
 have one:∀{o:Int} {f:Fm},(∀a∈f.nodes,∀x∈a.ins,Go.Proofs.YthfmaclnccdcbaaGreatDoor.Jg x)→(∀a∈(Fm.mk o 0 [] [f]).nodes,∀x∈a.ins,Go.Proofs.YthfmaclnccdcbaaGreatDoor.Jg x)∧(Fm.mk o 0 [] [f]).ins.length≤1∧(Fm.mk o 0 [] [f]).kids.length≤2:=by
  intro o f h1;refine⟨?_,by simp[Fm.ins],by simp[Fm.kids]⟩;intro a ha;simp[Fm.nodes,Fm.bQ] at ha;rcases ha with rfl|ha
  ·intro x hx;simp[Fm.ins] at hx
  ·exact h1 a ha
 cases h with
 | c h=>exact hc h
 | v h=>exact hv h
 | FB h g=>exact two (hc h).1 (hv g).1
 | Rj h g=>exact two (hc h).1 (hv g).1
 | UE h g=>exact two (hc h).1 (hc g).1
 | Tc h g=>exact two (hc h).1 (one (hc g).1).1
 | part h=>exact one (hc h).1
 | Td h g=>exact two (hc h).1 (one (hv g).1).1
theorem SF.fmK {f:Fm} (h:SF f):Go.Proofs.YthfmaclnccdcbaaGreatDoor.Jk f∧f.ins.length≤1∧f.kids.length≤2:=by
 refine⟨⟨by have:=h.size;unfold Go.Proofs.YthfmaclnccdcbaaGreatDoor.mg at this;unfold Go.Proofs.YthfmaclnccdcbaaGreatDoor.o7;exact this,?_⟩,?_⟩
 ·rcases h with h|⟨o,n,ho,h1,h2,rfl⟩
  ·exact (FT h).1
  ·simp[Fm.nodes,Fm.bQ,Fm.ins]
 ·rcases h with h|⟨o,n,ho,h1,h2,rfl⟩
  ·exact (FT h).2
  ·simp[Fm.ins,Fm.kids]
def XT (l:List Cl):Prop:=l=[]∨jW l∨∃r:Int,iK r∧l=[⟨[r],Fm.zero⟩]
theorem XT.body {l:List Cl} (h:XT l):∀c∈l,SF c.body:=by
 rcases h with rfl|h|⟨r,hr,rfl⟩
 ·intro c hc;cases hc
 ·intro c hc
  obtain⟨i,hi,rfl⟩:=List.mem_iff_getElem.1 hc;exact .inl (h.2.2 i hi).1
 ·intro c hc
  rw[List.mem_singleton.1 hc];exact SF.zero
theorem XT.len {l:List Cl} (h:XT l):l.length≤3:=by
 rcases h with rfl|h|⟨r,hr,rfl⟩
 ·simp
 ·exact h.2.1
 ·simp
theorem XT.ok {l:List Cl} (h:XT l):(∀c∈l,EG c)∧(fZ l).length≤1500:=by
 rcases h with rfl|h|⟨r,hr,rfl⟩
 ·exact⟨fun c hc=>(by cases hc),PO⟩
 ·exact⟨fun c hc=>(yT h c hc).1,CO h⟩
 ·have h64:∀x∈[r],-9223372036854775808≤x∧x≤9223372036854775807:=fun x hx=>by rw[List.mem_singleton.1 hx];exact hr
  refine⟨fun c hc=>?_,?_⟩
  ·rw[List.mem_singleton.1 hc]
   exact⟨h64,by simp,SF.zero.enc.1,by have:=SF.zero.enc.2;simp only;omega⟩
  ·unfold fZ nM
   rw[dF];have e1:=jd (r:=(([⟨[r],Fm.zero⟩]:List Cl).length:Int)) (by simp) (by simp);have e2:=Hu (l:=[r]) (by simp) h64;have e3:=iO SF.zero.enc.2 (by omega);have e4:(List.map nK [⟨[r],Fm.zero⟩]).flatten.length=(fO [r]).length+(encR (bZ Fm.zero)).length:=by simp[nK]
   rw[e4];simp only[List.length_singleton] at e2;omega
structure wo (N:Nat) (x:Pa):Prop where
 ns:∀r∈fH x,iK r
 td:∀f∈x.td,SF f
 tn:x.td.length≤2
 tc:XT x.tc
 cl:XT x.cl
 en:x.ea.length≤N
 ea:∀e∈x.ea,iK e.file∧iK e.day
 fx:SF x.fx
theorem ShA.sp {x:Pa} (h:ShA x):wo 2 x:=by
 refine⟨fun r hr=>?_,fun f hf=>.inl (h.td f hf),h.tn,h.tc.imp id .inl,h.cl.imp id .inl,h.en,fun e he=>?_,?_⟩
 ·have:=h.ns r hr;exact⟨by omega,by omega⟩
 ·have:=h.ea e he;exact⟨⟨by omega,by omega⟩,by omega,by omega⟩
 ·rcases h.fx with e|e
  ·rw[e];exact SF.zero
  ·exact .inl e
theorem wo.zero:wo 0 Pa.zero:=by
 refine⟨?_,by simp[Pa.zero],by simp[Pa.zero],.inl rfl,.inl rfl,by simp[Pa.zero],by simp[Pa.zero],SF.zero⟩;intro r hr;simp[fH,Pa.zero] at hr;subst hr;exact⟨by omega,by omega⟩
theorem wo.mono {N M:Nat} {x:Pa} (h:wo N x) (hl:N≤M):wo M x:=⟨h.ns,h.td,h.tn,h.tc,h.cl,by have:=h.en;omega,h.ea,h.fx⟩
theorem wo.szA {N:Nat} {x:Pa} (h:wo N x):SX x:=⟨fun f hf=>(h.td f hf).size,fun c hc=>(h.tc.body c hc).size,fun c hc=>(h.cl.body c hc).size,h.fx.size⟩
theorem wo.szM {N:Nat} {x:Pa} (h:wo N x):SzM x:=by
 refine⟨fun f hf=>(h.td f hf).fmK.1,fun c hc=>(h.tc.body c hc).fmK.1,fun c hc=>(h.cl.body c hc).fmK.1,h.fx.fmK.1,?_,?_⟩
 ·have h1:=h.ns x.sn (by simp[fH])
  have h2:=h.ns x.sd (by simp[fH]);exact⟨h1.1,h1.2,h2.1,h2.2⟩
 ·have h1:=h.tn
  have h2:=h.tc.len;have h3:=h.fx.fmK.2;omega
theorem wo.txl {N:Nat} {x:Pa} (h:wo N x):(lU x.td x.tc).length≤3000:=by
 have htd:(rQ x.td).length≤450*x.td.length:=iL (fun f=>encR (gu f)) fun f hf=>iO (kC (h.td f hf).enc.2) (by omega)
 have htn:450*x.td.length≤450*2:=Nat.mul_le_mul_left _ h.tn;have e1:=jd (r:=(x.td.length:Int)) (by omega) (by have:=h.tn;omega);have e2:=iO (jc h.tc.ok.2) (by omega);unfold lU;rw[dF,dF];omega
theorem wo.TF {N:Nat} {x:Pa} (h:wo N x) (hN:N≤1000):(Ce x).length≤26000:=by
 have htx:=h.txl;have hen:(kQ x.ea).length≤20*x.ea.length:=iL oJ fun e he=>by
  have:=h.ea e he;unfold oJ;rw[dF];have:=jd this.1.1 this.1.2;have:=jd (h.ea e he).2.1 (h.ea e he).2.2;omega
 have adQ:20*x.ea.length≤20*N:=Nat.mul_le_mul_left _ h.en;have e3:=jd (r:=(x.ea.length:Int)) (by omega) (by have:=h.en;omega);have hkd:(iE x).length≤24000:=by
  unfold iE;split
  ·rw[dF,dF]
   have:=iO (mJ htx) (by omega);omega
  ·split
   ·have:=iO (kC h.fx.enc.2) (by omega)
    omega
   ·simp
 have hac:(sZ x).length≤1510:=by
  unfold sZ;split
  ·simp
  ·exact iO (jc h.cl.ok.2) (by omega)
 have hn1:=iL PA.encI (B:=10) (l:=fH x) fun r hr=>jd (h.ns r hr).1 (h.ns r hr).2
 have hn2:(fH x).length=11:=rfl;rw[hn2] at hn1;unfold Ce;rw[dF,dF];omega
theorem wo.enc {N:Nat} {x:Pa} (h:wo N x) (hN:N≤1000):kK x:=
 ⟨h.ns,fun f hf=>(h.td f hf).ok,h.tc.ok.1,h.cl.ok.1,fun e he=>h.ea e he,h.fx.ok,by have:=h.txl;omega,by have:=h.tc.ok.2;omega,by have:=h.cl.ok.2;omega,by have:=h.TF hN;omega⟩
theorem jF (x:Pa):(∀r∈fH x,iK r)↔iK x.k∧iK x.d∧iK x.n∧iK x.f∧iK x.o∧iK x.p∧iK x.q∧iK x.u∧iK x.m∧iK x.sn∧iK x.sd:=by
 simp[fH]
theorem wo.vW {N:Nat} {x:Pa} (h:wo N x) (hw:Int) {b:Int} (hb:iK b):wo (N+2) (vW x hw b):=by
 have two:iK 2:=⟨by omega,by omega⟩
 obtain⟨n1,n2,n3,n4,n5,n6,n7,n8,n9,n10,n11⟩:=(jF x).1 h.ns;have hl:x.ea.length≤N+2:=by have:=h.en;omega
 unfold PA.vW
 by_cases e0:hw=0
 ·rw[if_pos e0];exact⟨(jF _).2 ⟨hb,n2,n3,n4,n5,n6,n7,n8,n9,n10,n11⟩,h.td,h.tn,h.tc,h.cl,hl,h.ea,h.fx⟩
 rw[if_neg e0]
 by_cases e1:hw=1
 ·rw[if_pos e1];exact⟨(jF _).2 ⟨n1,hb,n3,n4,n5,n6,n7,n8,n9,n10,n11⟩,h.td,h.tn,h.tc,h.cl,hl,h.ea,h.fx⟩
 rw[if_neg e1]
 by_cases e2:hw=2
 ·rw[if_pos e2];exact⟨(jF _).2 ⟨n1,n2,hb,n4,n5,n6,n7,n8,n9,n10,n11⟩,h.td,h.tn,h.tc,h.cl,hl,h.ea,h.fx⟩
 rw[if_neg e2]
 by_cases e3:hw=3
 ·rw[if_pos e3];exact⟨(jF _).2 ⟨n1,n2,n3,hb,n5,n6,n7,n8,n9,n10,n11⟩,h.td,h.tn,h.tc,h.cl,hl,h.ea,h.fx⟩
 rw[if_neg e3]
 by_cases e4:hw=4
 ·rw[if_pos e4];exact⟨(jF _).2 ⟨n1,n2,n3,n4,hb,n6,n7,n8,n9,n10,n11⟩,h.td,h.tn,h.tc,h.cl,hl,h.ea,h.fx⟩
 rw[if_neg e4]
 by_cases e5:hw=5
 ·rw[if_pos e5];exact⟨(jF _).2 ⟨n1,n2,n3,n4,n5,hb,n7,n8,n9,n10,n11⟩,h.td,h.tn,h.tc,h.cl,hl,h.ea,h.fx⟩
 rw[if_neg e5]
 by_cases e6:hw=6
 ·rw[if_pos e6];exact⟨(jF _).2 ⟨n1,n2,n3,n4,n5,n6,hb,n8,n9,n10,n11⟩,h.td,h.tn,h.tc,h.cl,hl,h.ea,h.fx⟩
 rw[if_neg e6]
 by_cases e7:hw=7
 ·rw[if_pos e7];exact⟨(jF _).2 ⟨n1,n2,n3,n4,n5,n6,n7,hb,n9,n10,n11⟩,h.td,h.tn,h.tc,h.cl,hl,h.ea,h.fx⟩
 rw[if_neg e7]
 by_cases e8:hw=8
 ·rw[if_pos e8];exact⟨(jF _).2 ⟨n1,n2,n3,n4,n5,n6,n7,n8,hb,n10,n11⟩,h.td,h.tn,h.tc,h.cl,hl,h.ea,h.fx⟩
 rw[if_neg e8]
 by_cases e9:hw=9
 ·rw[if_pos e9];exact⟨(jF _).2 ⟨n1,n2,n3,n4,n5,n6,n7,n8,n9,hb,two⟩,h.td,h.tn,h.tc,h.cl,hl,h.ea,h.fx⟩
 rw[if_neg e9]
 by_cases e10:hw=10
 ·rw[if_pos e10]
  refine⟨h.ns,fun f hf=>?_,by simp,.inl rfl,h.cl,hl,h.ea,h.fx⟩;rw[List.mem_singleton.1 hf];exact .inr ⟨b,0,hb,by omega,by omega,rfl⟩
 rw[if_neg e10]
 by_cases e11:hw=11
 ·rw[if_pos e11];exact⟨h.ns,h.td,h.tn,h.tc,.inr (.inr ⟨b,hb,rfl⟩),hl,h.ea,h.fx⟩
 rw[if_neg e11]
 by_cases e12:hw=12
 ·rw[if_pos e12]
  refine⟨h.ns,h.td,h.tn,h.tc,h.cl,?_,fun e he=>?_,h.fx⟩
  ·have:=h.en
   simp only[dF,List.length_cons,List.length_nil];omega
  ·rcases List.mem_append.1 he with he|he
   ·exact h.ea e he
   ·rcases List.mem_cons.1 he with rfl|he
    ·exact⟨hb,by simp only;omega,by simp only;omega⟩
    ·rw[List.mem_singleton.1 he]
     exact⟨⟨by simp only;omega,by simp only;omega⟩,hb⟩
 rw[if_neg e12];exact⟨h.ns,h.td,h.tn,h.tc,h.cl,hl,h.ea,.inr ⟨b,1,hb,by omega,by omega,rfl⟩⟩
end PA
namespace PA
open Go Go.RowKit
def Jr (J:Mem) (N:Nat) (Ls:List (Ac×Pa)):Prop:=∀p∈Ls,kX J p.1 p.2∧wo N p.2
theorem Jr.mono {I J:Mem} {N M:Nat} {Ls:List (Ac×Pa)} (h:Jr I N Ls) (hl:Mem.le I J) (hn:N≤M):Jr J M Ls:=fun p hp=>⟨(h p hp).1.mono hl,(h p hp).2.mono hn⟩
theorem Jr.append {J:Mem} {N:Nat} {Ls Ms:List (Ac×Pa)} (h:Jr J N Ls) (g:Jr J N Ms):Jr J N (Ls++Ms):=fun p hp=>(List.mem_append.1 hp).elim (h p) (g p)
theorem Lc {P:Ac→Pa→Prop}:∀zl:List Ac,(∀z∈zl,∃p,P z p)→∃Ls:List (Ac×Pa),Ls.map (·.1)=zl∧∀q∈Ls,P q.1 q.2
 | [],_=>⟨[],rfl,fun q hq=>(by cases hq)⟩
 | z::zl,h=>by
  obtain⟨p,hp⟩:=h z (List.mem_cons_self ..);obtain⟨Ls,h1,h2⟩:=Lc zl fun y hy=>h y (List.mem_cons_of_mem _ hy)
  refine⟨(z,p)::Ls,by rw[List.map_cons,h1],fun q hq=>?_⟩;rcases List.mem_cons.1 hq with rfl|hq
  ·exact hp
  ·exact h2 q hq
end PA
namespace Go.Proofs.YthfmaclnccdcbaaGreatDoor
open Go.RowKit PA
theorem Fe {g o:Nat} {x:Ac} {w w':World} (h:Sem.run Tryz.prog (storeCells ⟨g,o,none⟩ x.cells 0) w=.ok () w'):Sem.run Tryz.prog (LJ (.pointer (some ⟨g,o,none⟩)) (.agg x.cells.toArray)) w=.ok () w':=by
 have hk:¬(Value.agg x.cells.toArray).cells.size≠kA:=by
  intro hc;exact hc rfl
 show Sem.run Tryz.prog (storeVar 36 ⟨g,o,none⟩ (.agg x.cells.toArray)) w=_;unfold storeVar;rw[Sem.run_bind,aY];show Sem.run Tryz.prog (if (Value.agg x.cells.toArray).cells.size≠kA then _ else _) w=_;rw[if_neg hk];exact h
theorem Jw {W w:World} {A:aC} {g N:Nat} {f:Nat→Ac} {tl:List Value} (h:Sat W w (sep (Ad g N f tl) A)) (i:Nat) (hi:i<N):Sem.run Tryz.prog (jA (.pointer (some ⟨g,i*19,none⟩))) w=.ok (.agg (f i).cells.toArray) w:=by
 show Sem.run Tryz.prog (loadVar 36 ⟨g,i*19,none⟩) w=_;unfold loadVar;exact Ur (Go.isAgg 36) (Go.sizeOf 36) (loadCells ⟨g,i*19,none⟩) _ (Dk w) (aY w) (VT h i hi)
theorem Js (xs:List Ac):∀u∈dA xs,u.oneCell'=true:=by
 intro u hu;obtain⟨x,hx,hu⟩:=List.mem_flatMap.1 hu;exact x.one u hu
theorem KW {W w:World} {A:aC} {E k:Nat} {a:Option Addr} {n c:Nat} {xs:List Value} (h:Sat W w (sep (aT E k a n c xs) A)):∀b,a=some b→∀j u,xs[j]?=some u→w.cell? (b.add j)=some u:=by
 intro b hb j u hu;obtain⟨g,e,hc⟩:=h.DI (fun e=>by rw[e] at hu;simp at hu);rw[hb] at e;cases e;rw[show (⟨g,0,none⟩:Addr).add j=⟨g,j,none⟩ by unfold Addr.add;split<;>simp_all];exact hc j u hu
def O7 (W:World) (I:Mem) (A:aC) (most:Nat) (e:Ending) (w':World):Prop:=
 ∃(a:Option Addr) (n c:Nat) (Ls:List (Ac×Pa)) (J:Mem),e=.returned (.slice a n c)∧n=Ls.length∧n≤most∧(n=0→a=none∧c=0)∧Mem.le I J∧Jr J 2 Ls∧(∀p∈Ls,aZ p.2=true)∧Sat W w' (sep (aT 36 19 a n c (dA (Ls.map (·.1)))) (sep (kn J) A))
attribute [local go_sem ↓] bW dB aY
set_option maxRecDepth 100000 in
set_option maxHeartbeats 8000000 in
theorem KH {W w:World} {A:aC} {I:Mem} (va:Value) (at' how b:Int) (h1:iK at') (h2:iK how) (h3:iK b) (hS:Calls Tryz.prog 14 #[va,.int .i64 12] w (O7 W I A 12)):
 Calls Tryz.prog 20 #[va,.int .i64 at',.int .i64 how,.int .i64 b] w fun e w'=>∃(a a2:Option Addr) (n c c2:Nat) (Ls Ms:List (Ac×Pa)) (J:Mem),e=.returned (.tuple #[.slice a n c,.slice a2 n c2])∧n=Ls.length∧n=Ms.length∧n≤12∧(n=0→a=none∧c=0)∧Mem.le I J∧Jr J 2 Ls∧(∀p∈Ls,aZ p.2=true)∧Jr J 4 Ms∧Sat W w' (sep (aT 36 19 a n c (dA (Ls.map (·.1)))) (sep (aT 36 19 a2 n c2 (dA (Ms.map (·.1)))) (sep (kn J) A))):=by
 have HS:=ah hS;have Qj:=ah (And.intro h1 (And.intro h2 h3));obtain⟨Po,dU⟩:∃P:Ending→World→Prop,P=fun e w'=>∃(a a2:Option Addr) (n c c2:Nat) (Ls Ms:List (Ac×Pa)) (J:Mem),e=.returned (.tuple #[.slice a n c,.slice a2 n c2])∧n=Ls.length∧n=Ms.length∧n≤12∧(n=0→a=none∧c=0)∧Mem.le I J∧Jr J 2 Ls∧(∀p∈Ls,aZ p.2=true)∧Jr J 4 Ms∧Sat W w' (sep (aT 36 19 a n c (dA (Ls.map (·.1)))) (sep (aT 36 19 a2 n c2 (dA (Ms.map (·.1)))) (sep (kn J) A))):=⟨_,rfl⟩
 rw[←dU];have bI:=ah dU;clear hS h1 h2 h3 dU
 go_enter Tryz.func20,Tryz.ntmps20
 go_wp2_with fail
 refine HS.out.mono ?_;rintro e w1 ⟨a,n,c,Ls,J,rfl,hn,Ue,hn0,hle,hsp,hv,hS1⟩;have hn63:(n:Int)≤12:=by omega
 obtain⟨zl,hzl⟩:=aB (Ls.map (·.1));rw[←hzl] at hS1;have hlen:(dA zl).length=n*19:=by rw[jY,hzl,List.length_map,hn]
 have jX:=ah (KW hS1);have HA2:=ah (hS1.gq 36 19);have hz0:a=none→n=0:=fun e=>by have:=hS1.eX;have h1:=this.2.2 e;have:=this.1;omega
 have HL:=ah (And.intro hn (And.intro hn0 (And.intro hle (And.intro hsp (And.intro hv (And.intro hzl (And.intro hlen hz0)))))));clear hn Ue hn0 hle hsp hv hS1 hzl hlen hz0 HS
 go_upto_region 3 with (fail)
 go_wp2_with (at_builtin;refine aJ rfl _ _ 23 rfl 36 19 248 _ Tryz.underlying23 uS rfl rfl HA2.out rfl (dA zl) HL.out.2.2.2.2.2.2.1 HL.out.2.2.2.2.2.2.2 jX.out (Js zl) (by omega) (by unfold maxLen;omega) ?_)
 intro a2 c2 w2 hS2;have abn:Sat W w2 (sep (aT 36 19 a2 n c2 (dA zl)) (sep (kn J) (sep (aT 36 19 a n c (dA zl)) A))):=by simpa only[aA,ay,aj] using (show Sat W w2 (sep (aT 36 19 a2 n c2 (dA zl)) (sep (aT 36 19 a n c (dA zl)) (sep (kn J) A))) by simpa using hS2)
 have H2:=ah abn;clear hS2 abn HA2 jX
 by_cases n0:n=0
 ·have hz:¬(0:Int)<(n:Int):=by omega
  have HF:Hid (Sat W w2 (sep (aT 36 19 a n c (dA (Ls.map (·.1)))) (sep (aT 36 19 a2 n c2 (dA (Ls.map (·.1)))) (sep (kn J) A)))):=ah (by
   rw[←HL.out.2.2.2.2.2.1];have:=H2.out;simpa only[aA,ay,aj] using this)
  clear n0 H2
  go_wp2
  rw[bI.out];exact⟨a,a2,n,c,c2,Ls,Ls,J,rfl,HL.out.1,HL.out.1,by omega,HL.out.2.1,HL.out.2.2.1,HL.out.2.2.2.1,HL.out.2.2.2.2.1,HL.out.2.2.2.1.mono (Mem.le_refl _) (by omega),HF.out⟩
 ·have hz:(0:Int)<(n:Int):=by omega
  have har:=jJ at' (n:Int) w2 Qj.out.1.1 Qj.out.1.2 (by omega) (by omega);obtain⟨k,hk⟩:∃k:Nat,fV at' (n:Int)=(k:Int):=⟨(fV at' n).toNat,by have:=iY at' n (by omega);omega⟩
  have hkn:k<n:=by have:=iY at' n (by omega);omega
  rw[hk] at har;have YW:=ah har;have hkz:(k:Int)<(n:Int):=by omega
  obtain⟨g,tl,rfl,hc1,hc2,hc3,h3⟩:=KU (by have:=HL.out;rw[this.2.2.2.2.2.1,List.length_map,←this.1]) (by omega) H2.out;obtain⟨f,hf⟩:∃f:Nat→Ac,f=fun i=>zl.getD i default:=⟨_,rfl⟩
  rw[←hf] at h3;have hkl:k<Ls.length:=by have:=HL.out.1;omega
  obtain⟨p,hp⟩:∃p,Ls[k]?=some p:=⟨_,List.getElem?_eq_getElem hkl⟩
  have hfk:f k=p.1:=by
   rw[hf,HL.out.2.2.2.2.2.1];simp only;rw[List.getD_eq_getElem?_getD,List.getElem?_map,hp];rfl
  have hpm:=List.mem_of_getElem? hp;obtain⟨hpi,hps⟩:=HL.out.2.2.2.1 p hpm;have hld:=Jw h3 k hkn;rw[hfk] at hld;have hsp:=LH p.1 p.2 how b hpi Qj.out.2.1 Qj.out.2.2 (by have:=hps.en;omega) h3.p1;have hqs:=hps.vW (fV how 14) Qj.out.2.2;have HSP:=ah hsp;have HC:=ah (And.intro hc1 (And.intro hc2 (And.intro hc3 (And.intro hf (And.intro hp (And.intro hqs hkn))))));clear n0 har hk hkn h3 hf hkl hp hfk hpm hpi hps hsp hqs hc1 hc2 hc3 H2
  go_upto_region 5 with (fail)
  go_wp2_with fail
  refine YW.out.mono ?_;rintro e w3 ⟨rfl,rfl⟩
  go_upto_region 6 with (fail)
  go_wp2_with fail
  refine HSP.out.mono ?_;rintro e w4 ⟨z',J',rfl,hle',hiz,h4⟩;obtain⟨wA,hsA,hA⟩:=VU h4.p1 k HC.out.2.2.2.2.2.2 z';have hst:=Fe hsA;have h5:=Jy HC.out.1 HC.out.2.1 HC.out.2.2.1 hA;have hset:(List.range n).map (Ru f k z')=(Ls.set k (z',vW p.2 (fV how 14) b)).map (·.1):=by
   rw[HC.out.2.2.2.1];refine List.ext_getElem? fun i=>?_
   rw[List.getElem?_map,List.getElem?_map,List.getElem?_set]
   by_cases hi:i<n
   ·rw[List.getElem?_range hi]
    by_cases e:k=i
    ·subst e
     simp[Ru,HL.out.1 ▸ hi]
    ·rw[if_neg e]
     have:i<Ls.length:=by have:=HL.out.1;omega
     simp only[Option.map_some,Ru];rw[if_neg (Ne.symm e),HL.out.2.2.2.2.2.1,List.getD_eq_getElem?_getD,List.getElem?_map,List.getElem?_eq_getElem this];rfl
   ·have h1:Ls.length≤i:=by have:=HL.out.1;omega
    rw[List.getElem?_eq_none (by simpa using hi),List.getElem?_eq_none h1]
    by_cases e:k=i
    ·have:=HC.out.2.2.2.2.2.2;omega
    ·rw[if_neg e];rfl
  rw[hset] at h5;have HF:Hid (Sat W wA (sep (aT 36 19 a n c (dA (Ls.map (·.1)))) (sep (aT 36 19 (some ⟨g,0,none⟩) n c2 (dA ((Ls.set k (z',vW p.2 (fV how 14) b)).map (·.1)))) (sep (kn J') A)))):=ah (by
   rw[HL.out.2.2.2.2.2.1] at h5;simpa only[aA,ay,aj] using h5)
  have HI:=ah (And.intro hle' hiz);clear hle' hiz h4 hsA hA h5 hset HSP hld
  go_wp2
  rw[bI.out];refine⟨a,some ⟨g,0,none⟩,n,c,c2,Ls,_,J',rfl,HL.out.1,by rw[List.length_set];exact HL.out.1,by omega,HL.out.2.1,eG HL.out.2.2.1 HI.out.1,HL.out.2.2.2.1.mono HI.out.1 (Nat.le_refl _),HL.out.2.2.2.2.1,fun q hq=>?_,HF.out⟩;rcases List.mem_or_eq_of_mem_set hq with hq|rfl
  ·exact⟨(HL.out.2.2.2.1 q hq).1.mono HI.out.1,(HL.out.2.2.2.1 q hq).2.mono (by omega)⟩
  ·exact⟨HI.out.2,HC.out.2.2.2.2.2.1⟩
end Go.Proofs.YthfmaclnccdcbaaGreatDoor
namespace PA
open Go Go.RowKit
theorem Xb {J:Mem} {zl:List Ac} {ps:List Pa} (h:gI (kX J) zl ps) (hm:Made ps) (hn:zl.length≤14):∀(i:Nat) (z:Ac),zl[i]?=some z→∃p,kX J z p∧wo 2 p∧aZ p=true∧p.n=4*(i:Int):=by
 intro i z hz;obtain⟨hi,rfl⟩:=List.getElem?_eq_some_iff.1 hz;have hl:=h.length;have hp:i<ps.length:=by omega
 have h1:=h.get i hi hp;obtain⟨h2,h3,-⟩:=hm i hp;have hf:Af (ps.take i)≤100:=by
  have:Af (ps.take i)≤(ps.take i).length:=List.length_filter_le _ _;rw[List.length_take] at this;omega
 have hb:0≤ps[i].n∧ps[i].n≤1000000:=by rw[h3];omega
 exact⟨ps[i],h1,(JV hf h2 hb).sp,JW hf h2 hb,h3⟩
end PA

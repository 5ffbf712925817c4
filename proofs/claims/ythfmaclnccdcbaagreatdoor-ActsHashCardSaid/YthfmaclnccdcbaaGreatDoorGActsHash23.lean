/- Part of a proof. -/
import Derived.Test.YthfmaclnccdcbaaGreatDoorGActsHash22
import Derived.Test.YthfmaclnccdcbaaGreatDoorGActsHash7
namespace PA
open Go Go.RowKit
theorem xu {I:Mem} {a:Option Addr} {n c:Nat} {l:List Ea} (h:(MQ.slice 2).rel I [.slice a n c] l) {i:Nat} {x:Ea} (hx:l[i]?=some x):
 ∃b o,a=some ⟨b,o,none⟩∧∀w',Ext I w'→w'.cell? ⟨b,o+i*2,none⟩=some (.int .i64 x.file)∧w'.cell? ⟨b,o+i*2+1,none⟩=some (.int .i64 x.day):=by
 obtain⟨b,o,cs,rfl,hr,-,hc⟩:=lH h hx (by omega);have e:cs=[.int .i64 x.file,.int .i64 x.day]:=hr;subst e;exact⟨b,o,rfl,fun w' he=>⟨hc w' he 0 _ rfl,hc w' he 1 _ rfl⟩⟩
theorem PG {f:Int} {l:List Ea} {j:Nat} {e:Ea} (h:l[j]?=some e):Hl f l j=(aN e.file 0 4095&&(decide (e.file≠f)&&(aN e.day 0 131072&&!((l.take j).any fun g=>decide (g.file=e.file))))):=by
 unfold Hl;rw[h]
theorem Jy {l:List Ea} {k:Nat} {g:Ea} {p:Ea→Bool} (h:l[k]?=some g):(l.take (k+1)).any p=((l.take k).any p||p g):=by
 rw[List.take_add_one,h,List.any_append];simp
end PA
namespace Go.Proofs.YthfmaclnccdcbaaGreatDoor
open Go.RowKit PA
theorem gK {W w:World} {A:aA} {q:Nat} {x:Ac} (h:Sat W w (sep (blk q (.cells x.cells.toArray 36 (0,0))) A)):
 Sem.run Tryz.prog (jC (.pointer (some ⟨q,0,none⟩))) w=.ok (.agg x.cells.toArray) w:=
 jU fun i v hv=>(au h i v hv).1
theorem bD (n lo hi:Int) (w:World):Calls Tryz.prog 60 #[.int .i64 n,.int .i64 lo,.int .i64 hi] w fun e w'=>e=.returned (.bool (aN n lo hi))∧w=w':=by
 obtain⟨r,hr⟩:=ay (aN n lo hi);rw[←hr];have HR:=ah hr;clear hr
 by_cases h1:lo≤n
 ·by_cases h2:n≤hi
  ·have HF:Hid (r=true):=ah (by rw[HR.out];unfold aN;rw[decide_eq_true h1,decide_eq_true h2];rfl)
   go_enter Tryz.func60,Tryz.ntmps60
   go_wp2
   go_ret
   exact⟨by rw[HF.out];try rfl,rfl⟩
  ·have HF:Hid (r=false):=ah (by rw[HR.out];unfold aN;rw[decide_eq_true h1,decide_eq_false h2];rfl)
   go_enter Tryz.func60,Tryz.ntmps60
   go_wp2
   go_ret
   exact⟨by rw[HF.out];try rfl,rfl⟩
 ·have HF:Hid (r=false):=ah (by rw[HR.out];unfold aN;rw[decide_eq_false h1];rfl)
  go_enter Tryz.func60,Tryz.ntmps60
  go_wp2
  go_ret
  exact⟨by rw[HF.out];try rfl,rfl⟩
end Go.Proofs.YthfmaclnccdcbaaGreatDoor
namespace PA
open Go Go.RowKit
def YL (S:Int→Bool) (k:Int):Option Value:=if S k=true then some (.bool true) else none
theorem Xi (S:Int→Bool) (k:Int):lN (YL S) k (some (.bool true))=YL (fun i=>S i||i==k):=by
 funext i;unfold lN YL
 by_cases h:i=k
 ·subst h;simp
 ·have e:(i==k)=false:=by simpa using h
  rw[if_neg h];simp only[e,Bool.or_false]
def Q7 (F:Int) (l:List Ea) (j:Nat) (k:Int):Bool:=k==F||(l.take j).any fun g=>decide (g.file=k)
theorem Xj {F:Int} {l:List Ea} {j:Nat} {e:Ea} (h:l[j]?=some e):(fun i=>Q7 F l j i||i==e.file)=Q7 F l (j+1):=by
 funext i;unfold Q7;rw[Jy h,Bool.or_assoc];congr 2
 by_cases hi:i=e.file
 ·rw[hi];simp
 ·have e1:(i==e.file)=false:=by simpa using hi
  rw[e1,decide_eq_false (Ne.symm hi)]
theorem WO {F:Int} {l:List Ea} {j:Nat} {e:Ea} (h:l[j]?=some e):(Q7 F l j e.file||(!aN e.file 0 4095||!aN e.day 0 131072))=!Hl F l j:=by
 rw[PG h];unfold Q7
 by_cases hF:e.file=F
 ·rw[hF];simp
 ·have e1:(e.file==F)=false:=by simpa using hF
  rw[e1,decide_eq_true hF];cases (List.take j l).any fun g=>decide (g.file=e.file)<;>cases aN e.file 0 4095<;>cases aN e.day 0 131072<;>rfl
def QO (x:Pa):Bool:=aN x.q (-1) 4095&&(decide (x.q≠x.f)&&(decide (x.ea.length≤8)&&(decide (Es x.td x.tc=0)&&lM x.f x.ea x.ea.length)))
structure V5 (x:Pa):Prop where
 td:∀f∈x.td,Go.Proofs.YthfmaclnccdcbaaGreatDoor.Jl f
 tc:∀c∈x.tc,Go.Proofs.YthfmaclnccdcbaaGreatDoor.Jl c.body
 cl:∀c∈x.cl,Go.Proofs.YthfmaclnccdcbaaGreatDoor.Jl c.body
 fx:Go.Proofs.YthfmaclnccdcbaaGreatDoor.Jl x.fx
 sh:Go.Proofs.YthfmaclnccdcbaaGreatDoor.Tc ⟨x.sn,x.sd⟩
 ln:x.td.length+x.tc.length+x.fx.ins.length+x.fx.kids.length≤4000000
end PA
namespace Go.Proofs.YthfmaclnccdcbaaGreatDoor
open Go.RowKit PA
theorem Vy (w:World):(zeroValue 4).run Tryz.prog w=.ok (.bool false) w:=by kernel_rfl
def Ol (KC mb:Nat) (S:Int→Bool) (n:Nat):aA:=sep (blk KC (.cells #[.map (some mb)] 144 (0,0))) (vV mb (YL S) n)
set_option maxRecDepth 100000 in
set_option maxHeartbeats 4000000 in
theorem NI {W w:World} {A:aA} (KC mb:Nat) (S:Int→Bool) (n:Nat) (fl dy:Int) (h:Sat W w (sep (Ol KC mb S n) A)):
 Calls Tryz.prog 158 #[.agg #[.int .i64 fl,.int .i64 dy],.pointer (some ⟨KC,0,none⟩)] w fun e w'=>e=.returned (.bool (S fl||(!aN fl 0 4095||!aN dy 0 131072)))∧∃n',Sat W w' (sep (Ol KC mb (fun i=>S i||i==fl) n') A):=by
 unfold Ol at h;rw[aj] at h;have h1:=h.alloc (.cells #[.int .i64 fl,.int .i64 dy] 93);obtain⟨B,hB⟩:=ay (w.heap.size);obtain⟨w1,hw1⟩:=ay (w.alloc (.cells #[.int .i64 fl,.int .i64 dy] 93));rw[←hB,←hw1] at h1;have HB:=ah (And.intro hB hw1);obtain⟨b0,hb0⟩:=ay (S fl);obtain⟨b1,hb1⟩:=ay (aN fl 0 4095);obtain⟨b2,hb2⟩:=ay (aN dy 0 131072);have C1:Hid (∀w',Calls Tryz.prog 60 #[.int .i64 fl,.int .i64 0,.int .i64 4095] w' fun e w''=>e=.returned (.bool b1)∧w'=w''):=ah fun w'=>by rw[hb1];exact bD _ _ _ w'
 have C2:Hid (∀w',Calls Tryz.prog 60 #[.int .i64 dy,.int .i64 0,.int .i64 131072] w' fun e w''=>e=.returned (.bool b2)∧w'=w''):=ah fun w'=>by rw[hb2];exact bD _ _ _ w'
 have hlk:=Az (P:=Tryz.prog) (T:=144) Tryz.underlying144 Tryz.underlying3 Vy h1.p2 fl false;have e0:(YL S fl).getD (.bool false)=.bool b0:=by unfold YL;rw[←hb0];cases b0<;>rfl
 rw[e0] at hlk;simp only[Bool.false_eq_true,if_false] at hlk;obtain⟨w2,n',hup,-,h3⟩:=lW (P:=Tryz.prog) (T:=144) Tryz.underlying144 Tryz.underlying3 h1.p2 fl (.bool true);rw[Xi] at h3;have k0:w1.cell? ⟨B,0,none⟩=some (.int .i64 fl):=h1.cell 0;have kc:w1.cell? ⟨KC,0,none⟩=some (.map (some mb)):=h1.p1.cell 0;have H3:Hid (Sat W w2 (sep (blk B (.cells #[.int .i64 fl,.int .i64 dy] 93 (0,0))) (sep (Ol KC mb (fun i=>S i||i==fl) n') A))):=ah (by unfold Ol;simpa only[aF,aC,aj] using h3);rw[←hb0,←hb1,←hb2];obtain⟨Po,dR⟩:∃P:Ending→World→Prop,P=fun e w'=>e=.returned (.bool (b0||(!b1||!b2)))∧∃n',Sat W w' (sep (Ol KC mb (fun i=>S i||i==fl) n') A):=⟨_,rfl⟩
 rw[←dR];have bK:=ah dR;clear h h1 h3 hB hw1 e0 hb0 hb1 hb2 dR
 go_enter Tryz.func158,Tryz.ntmps158
 go_upto_region 1 with (fail)
 rw[←HB.out.1,←HB.out.2]
 go_upto_region 3 with (fail)
 clear k0 kc hlk hup;have k0:w2.cell? ⟨B,0,none⟩=some (.int .i64 fl):=H3.out.cell 0;have k1:w2.cell? ⟨B,1,none⟩=some (.int .i64 dy):=H3.out.cell 1;have HF:=ah (Exists.intro (p:=fun n'=>Sat W w2 (sep (Ol KC mb (fun i=>S i||i==fl) n') A)) n' H3.out.forget);clear H3;cases b0 with
 | true=>
  go_wp2
  rw[bK.out];exact⟨rfl,HF.out⟩
 | false=>
  go_wp2_with fail
  refine (C1.out _).mono ?_;rintro e w3 ⟨rfl,rfl⟩;cases b1 with
  | false=>
   go_wp2
   rw[bK.out];exact⟨rfl,HF.out⟩
  | true=>
   go_wp2_with fail
   refine (C2.out _).mono ?_;rintro e w3 ⟨rfl,rfl⟩
   go_wp2
   rw[bK.out];exact⟨by cases b2<;>rfl,HF.out⟩
set_option maxRecDepth 100000 in
set_option maxHeartbeats 4000000 in
theorem Ho {W w:World} {A:aA} {I:Mem} (KC mb:Nat) (F:Int) (n0:Nat) (a:Option Addr) (n c:Nat) (l:List Ea) (hv:(MQ.slice 2).rel I [.slice a n c] l) (h:Sat W w (sep (Ol KC mb (Q7 F l 0) n0) (sep (kn I) A))):
 Calls Tryz.prog 196 #[.slice a n c,.func (.func 158) #[] #[.pointer (some ⟨KC,0,none⟩)]] w fun e w'=>(∃r:Int,e=.returned (.int .i64 r)∧decide (0≤r)=!lM F l l.length)∧Sat W w' (sep (kn I) A):=by
 have hn:=(aI hv).1;have hn63:=(aI hv).2.2;obtain⟨Po,dR⟩:∃P:Ending→World→Prop,P=fun e w'=>(∃r:Int,e=.returned (.int .i64 r)∧decide (0≤r)=!lM F l l.length)∧Sat W w' (sep (kn I) A):=⟨_,rfl⟩
 rw[←dR];have bK:=ah dR;have HX:=ah (And.intro hv hn);have H:=ah h;have HD:Hid (∀w' S m,Sat W w' (sep (Ol KC mb S m) (sep (kn I) A))→Sat W w' (sep (kn I) A)):=ah fun w' S m h'=>by
  unfold Ol at h';rw[aj] at h';obtain⟨es,cl,-,-,-,h9⟩:=h'.forget.mO;exact h9.forget
 clear hv h hn dR
 go_enter Tryz.func196,Tryz.ntmps196
 go_wp2
 go_loopw [8] (fun iv wr=>∃(i m:Nat),iv=.int .i64 i∧i≤n∧Hid (lM F l i=true)∧Sat W wr (sep (Ol KC mb (Q7 F l i) m) (sep (kn I) A))) (fun iv _=>n-(intOf iv).toNat)
 case atStart=>exact⟨0,n0,rfl,by omega,ah rfl,H.out⟩
 case round=>
  obtain⟨i,m,rfl,hi,HT,hS⟩:=hrel;clear H
  by_cases hlt:i<n
  ·have hltz:(i:Int)<(n:Int):=by omega
   obtain⟨e,he⟩:∃e,l[i]?=some e:=⟨_,List.getElem?_eq_getElem (by have:=HX.out.2;omega)⟩
   obtain⟨b,o,rfl,hcell⟩:=xu HX.out.1 he;obtain⟨j0,j1⟩:=hcell wr hS.p1.ext;have hcall:=NI KC mb (Q7 F l i) m e.file e.day hS;rw[WO he,Xj he] at hcall;obtain⟨be,hbe⟩:=ay (Hl F l i);rw[←hbe] at hcall;have HC:=ah hcall;have HE:=ah (And.intro hbe hlt);obtain⟨ef,hef⟩:=ay (e.file);obtain⟨ed,hed⟩:=ay (e.day);rw[←hef] at j0 HC;rw[←hed] at j1 HC;clear hcell he hS hcall hbe hlt hi hef hed
   go_wp2_with fail
   refine HC.out.mono ?_;rintro e' w2 ⟨rfl,m',h2⟩;clear j0 j1 HC;cases be with
   | true=>
    have H2:=ah h2;have HN:Hid (lM F l (i+1)=true):=ah (by rw[FI,HT.out,←HE.out.1];rfl);clear h2
    go_wp2
    go_roundw
    case rel=>exact⟨i+1,m',by go_num,by have:=HE.out.2;omega,HN,H2.out⟩
    case measure=>simp[intOf];have:=HE.out.2;omega
   | false=>
    have HF:Hid (lM F l l.length=false):=ah (JK (by have:=HX.out.2;have:=HE.out.2;omega) HE.out.1.symm);have H2:=ah (HD.out _ _ _ h2);clear h2
    go_wp2
    rw[bK.out];exact⟨⟨i,rfl,by rw[HF.out,decide_eq_true (by omega)];rfl⟩,H2.out⟩
  ·obtain rfl:i=n:=by omega
   have HF:Hid (lM F l l.length=true):=ah (by rw[←HX.out.2];exact HT.out);have H2:=ah (HD.out _ _ _ hS);clear hS hlt hi
   go_wp2
   rw[bK.out];exact⟨⟨-1,rfl,by rw[HF.out];rfl⟩,H2.out⟩
theorem JL {W w:World} {A:aA} {I:Mem} (KC mb:Nat) (F:Int) (n0:Nat) (a:Option Addr) (n c:Nat) (l:List Ea) (hv:(MQ.slice 2).rel I [.slice a n c] l) (h:Sat W w (sep (Ol KC mb (Q7 F l 0) n0) (sep (kn I) A))):
 Calls Tryz.prog 157 #[.slice a n c,.func (.func 158) #[] #[.pointer (some ⟨KC,0,none⟩)]] w fun e w'=>e=.returned (.bool (!lM F l l.length))∧Sat W w' (sep (kn I) A):=by
 have HI:=ah (Ho KC mb F n0 a n c l hv h);obtain⟨rv,dI⟩:=ay (!lM F l l.length);rw[←dI] at HI ⊢;clear hv h dI
 go_enter Tryz.func157,Tryz.ntmps157
 go_wp2_with fail
 refine HI.out.mono ?_;rintro e w2 ⟨⟨r,rfl,hr⟩,h2⟩;have H2:=ah h2;have HR:=ah hr;clear h2 HI hr
 go_wp2
 go_ret
 exact⟨by first|exact congrArg (fun b=>Ending.returned (.bool b)) HR.out|simp[←HR.out],H2.out⟩
attribute [local go_sem ↓] dw dK bC
set_option maxRecDepth 100000 in
set_option maxHeartbeats 8000000 in
theorem Ii {W w:World} {A:aA} {I:Mem} (z:Ac) (x:Pa) (hA:mM I z x) (hz:V5 x) (h:Sat W w (sep (kn I) A)):
 Calls Tryz.prog 116 #[.agg z.cells.toArray] w fun e w'=>∃J,e=.returned (.bool (QO x))∧Mem.le I J∧Sat W w' (sep (kn J) A):=by
 have h1:=(h.alloc (.cells z.cells.toArray 36)).p1;obtain⟨B,hB⟩:=ay (w.heap.size);obtain⟨w1,hw1⟩:=ay (w.alloc (.cells z.cells.toArray 36));rw[←hB,←hw1] at h1;have HB:=ah (And.intro hB hw1);obtain⟨b3,hb3⟩:=ay (aN z.q (-1) 4095);obtain⟨te,hte⟩:=ay (Es x.td x.tc);obtain⟨ne,hne⟩:=ay (z.ea.n);obtain⟨rv,dI⟩:=ay (QO x);have CZ:ne=x.ea.length:=by rw[hne];exact (aI hA.ea).1
 have jm:rv=(b3&&(decide (z.q≠z.f)&&(decide (ne≤8)&&(decide (te=0)&&lM z.f x.ea x.ea.length)))):=by
  rw[dI,hb3,hte,CZ,hA.q,hA.f];rfl
 have bJ:=ah jm;have C3:Hid (∀w',Calls Tryz.prog 60 #[.int .i64 z.q,.int .i64 (-1),.int .i64 4095] w' fun e w''=>e=.returned (.bool b3)∧w'=w''):=ah fun w'=>by rw[hb3];exact bD _ _ _ w'
 have C4:Hid (∀w' A',Sat W w' (sep (kn I) A')→Calls Tryz.prog 128 #[.agg #[.slice z.td.a z.td.n z.td.c,.slice z.tc.a z.tc.n z.tc.c]] w' fun e w''=>∃J,e=.returned (.int .i64 te)∧Mem.le I J∧Sat W w'' (sep (kn J) A')):=ah fun w' A' h'=>by
  rw[hte];exact xM z.td.a z.td.n z.td.c z.tc.a z.tc.n z.tc.c x.td x.tc hA.td hA.tc hz.td hz.tc h'
 have RV:=ah (And.intro hA.ea CZ);have k3:=(au h1.p1 3 _ rfl).1;have k6:=(au h1.p1 6 _ rfl).1;have k11:=(au h1.p1 11 _ rfl).1;have k12:=(au h1.p1 12 _ rfl).1;have k14:=(au h1.p1 14 _ rfl).1;have aed:(ne:Int)≤9223372036854775807:=by rw[hne];exact (aI hA.ea).2.2
 have Aq:w1.cell? ⟨B,14,none⟩=some (.slice z.ea.a ne z.ea.c):=by rw[hne];exact k14
 have VH:=ah hne;have H1:=ah h1;rw[←dI];obtain⟨Po,dR⟩:∃P:Ending→World→Prop,P=fun e w'=>∃J,e=.returned (.bool rv)∧Mem.le I J∧Sat W w' (sep (kn J) A):=⟨_,rfl⟩
 rw[←dR];have bK:=ah dR;have hmf:∀(fn:Fn) (first cap:Array Value) (w:World),(Instr.makeFunc fn first cap).run Tryz.prog w=.ok (.func fn first cap) w:=fun _ _ _ _=>rfl
 have hmm:=@run_makeMap Tryz.prog;clear hA hz h h1 hB hw1 hb3 hte hne dI jm CZ k14 dR
 go_enter Tryz.func116,Tryz.ntmps116
 go_upto_region 1 with (fail)
 rw[←HB.out.1,←HB.out.2];cases b3 with
 | false=>
  have HF:Hid (rv=false):=ah (by rw[bJ.out];rfl)
  go_wp2_with fail
  refine (C3.out _).mono ?_;rintro e w2 ⟨rfl,rfl⟩
  go_wp2
  rw[bK.out];exact⟨I,by (rw[HF.out];try rfl),Mem.le_refl _,H1.out.p1.drop⟩
 | true=>
  go_wp2_with fail
  refine (C3.out _).mono ?_;rintro e w2 ⟨rfl,rfl⟩
  by_cases Xc:z.q=z.f
  ·have HF:Hid (rv=false):=ah (by rw[bJ.out,Xc];simp)
   have hqb:(z.q==z.f)=true:=by simpa using Xc
   clear Xc
   go_wp2
   rw[bK.out];exact⟨I,by (rw[HF.out];try rfl),Mem.le_refl _,H1.out.p1.drop⟩
  ·have hqb:(z.q==z.f)=false:=by simpa using Xc
   by_cases h8:8<ne
   ·have HF:Hid (rv=false):=ah (by rw[bJ.out,decide_eq_false (show ¬ne≤8 by omega)];simp)
    have h8z:(8:Int)<(ne:Int):=by omega
    clear Xc h8
    go_wp2
    rw[bK.out];exact⟨I,by (rw[HF.out];try rfl),Mem.le_refl _,H1.out.p1.drop⟩
   ·have h8z:¬(8:Int)<(ne:Int):=by omega
    have HR2:Hid (rv=(decide (te=0)&&lM z.f x.ea x.ea.length)):=ah (by rw[bJ.out,decide_eq_true (show ne≤8 by omega),decide_eq_true Xc];simp);clear Xc h8
    go_wp2_with fail
    refine (C4.out _ _ H1.out).mono ?_;rintro e w2 ⟨J,rfl,hle,h2⟩;have H2:=ah h2;have ji:=ah hle;clear k3 k6 k11 k12 Aq h2 hle C4 C3
    by_cases ht0:te=0
    ·subst ht0
     have k3:=(au H2.out.p1 3 _ rfl).1;have h3:Sat W w2 (sep (kn J) (sep (blk B (.cells z.cells.toArray 36 (0,0))) A)):=H2.out;have h4:=h3.JC;obtain⟨mb,hmb⟩:=ay (w2.heap.size);obtain⟨w3,hw3⟩:=ay (w2.alloc (.map #[] 0));rw[←hmb,←hw3] at h4;obtain⟨w4,n',hup,-,h5⟩:=lW (P:=Tryz.prog) (T:=144) Tryz.underlying144 Tryz.underlying3 h4 z.f (.bool true);have ek:lN (fun _=>none) z.f (some (.bool true))=YL (Q7 z.f x.ea 0):=by
      funext k;unfold lN YL Q7
      by_cases hk:k=z.f
      ·subst hk;simp
      ·have e1:(k==z.f)=false:=by simpa using hk
       rw[if_neg hk,e1];simp
     rw[ek] at h5;have h6:=h5.alloc (.cells #[.map (some mb)] 144);obtain⟨KC,hKC⟩:=ay (w4.heap.size);obtain⟨w5,hw5⟩:=ay (w4.alloc (.cells #[.map (some mb)] 144));rw[←hKC,←hw5] at h6;have h7:Sat W w5 (sep (Ol KC mb (Q7 z.f x.ea 0) n') (sep (kn J) (sep (blk B (.cells z.cells.toArray 36 (0,0))) A))):=by unfold Ol;rw[aj];exact h6
     have k14:=(au (show Sat W w5 (sep (blk B (.cells z.cells.toArray 36 (0,0))) (sep (Ol KC mb (Q7 z.f x.ea 0) n') (sep (kn J) A))) by exact bT h7) 14 _ rfl).1;have Aq:w5.cell? ⟨B,14,none⟩=some (.slice z.ea.a ne z.ea.c):=by rw[VH.out];exact k14
     have HC:=ah (JL KC mb z.f n' z.ea.a ne z.ea.c x.ea (by rw[VH.out];exact (MQ.slice 2).mono ji.out RV.out.1) h7);have HW:=ah (And.intro hmb (And.intro hw3 (And.intro hKC hw5)));have HR3:Hid (rv=lM z.f x.ea x.ea.length):=ah (by rw[HR2.out];rfl);obtain⟨et,het⟩:=ay (lM z.f x.ea x.ea.length);rw[←het] at HC HR3;have abR:=hup;have k3a:=(au h4.p2 3 _ rfl).1;rw[hmb,hw3] at abR;rw[hw3] at k3a;clear h3 h4 h5 h6 h7 hmb hw3 hKC hw5 ek k14 H2 H1 het hup
     go_upto_region 4 with (fail)
     rw[←HW.out.1,←HW.out.2.2.1,←HW.out.2.2.2];clear abR k3 k3a hqb h8z
     go_wp2_with fail
     refine HC.out.mono ?_;rintro e w6 ⟨rfl,h8⟩;have H8:=ah h8;clear h8 HC Aq
     go_wp2
     rw[bK.out];exact⟨J,by (rw[HR3.out];cases et<;>rfl),ji.out,H8.out.p1.drop⟩
    ·have HF:Hid (rv=false):=ah (by rw[HR2.out,decide_eq_false ht0];rfl)
     have ht1:(te !=0)=true:=by simpa using ht0
     have ht2:(te==0)=false:=by simpa using ht0
     clear ht0
     go_wp2
     rw[bK.out];exact⟨J,by (rw[HF.out];try rfl),ji.out,H2.out.p1.drop⟩
end Go.Proofs.YthfmaclnccdcbaaGreatDoor
namespace PA
open Go Go.RowKit
def SF (f:Fm):Prop:=bY f∨∃o n:Int,iT o∧0≤n∧n≤1∧f=.mk o n [] []
theorem SF.zero:SF Fm.zero:=.inr ⟨0,0,⟨by omega,by omega⟩,by omega,by omega,rfl⟩
theorem SF.enc {f:Fm} (h:SF f):f.n64∧(bV f).length≤440:=by
 rcases h with h|⟨o,n,ho,h1,h2,rfl⟩
 ·exact jO h
 ·refine⟨by rw[Fm.n64];exact⟨ho,⟨by omega,by omega⟩,by simp,by rw[Fm.Dq];trivial⟩,?_⟩
  have:=pU (o:=o) (n:=n) (i:=[]) (k:=[]) ho ⟨by omega,by omega⟩ (by simp) (by simp);simp[dN,dZ] at this;omega
theorem SF.ok {f:Fm} (h:SF f):Qm f:=⟨h.enc.1,by have:=h.enc.2;omega⟩
theorem SF.size {f:Fm} (h:SF f):f.size≤Go.Proofs.YthfmaclnccdcbaaGreatDoor.mG:=by
 rcases h with h|⟨o,n,ho,h1,h2,rfl⟩
 ·have:=(Cj h).sz
  unfold Go.Proofs.YthfmaclnccdcbaaGreatDoor.mG;omega
 ·simp[Fm.size,Fm.sizes,Go.Proofs.YthfmaclnccdcbaaGreatDoor.mG]
theorem Ub {x:Iv} (h:Bj x):Go.Proofs.YthfmaclnccdcbaaGreatDoor.Jh x:=by
 obtain⟨h1,h2,h3,h4,h5⟩:=h;have hh:0≤x.hn∧x.hn≤8∧0≤x.hd∧x.hd≤1:=by
  rcases h5 with ⟨-,e1,e2,-⟩|⟨-,e1,e2,e3⟩
  ·rw[e1,e2];omega
  ·omega
 refine⟨⟨?_,?_,?_,?_⟩,⟨?_,?_,?_,?_⟩⟩<;>simp only[Iv.lw,Iv.up]<;>omega
theorem FP {f:Fm} (h:bY f):(∀g∈f.nodes,∀x∈g.ins,Go.Proofs.YthfmaclnccdcbaaGreatDoor.Jh x)∧f.ins.length≤1∧f.kids.length≤2:=by
 have hc:∀{f:Fm},oK f→(∀g∈f.nodes,∀x∈g.ins,Go.Proofs.YthfmaclnccdcbaaGreatDoor.Jh x)∧f.ins.length≤1∧f.kids.length≤2:=by
  rintro f ⟨n,-,-,rfl⟩;simp[Fm.nodes,Fm.bM,Fm.ins,Fm.kids]
 have hv:∀{f:Fm},zy f→(∀g∈f.nodes,∀x∈g.ins,Go.Proofs.YthfmaclnccdcbaaGreatDoor.Jh x)∧f.ins.length≤1∧f.kids.length≤2:=by
  rintro f ⟨n,x,-,-,hx,rfl⟩;refine⟨?_,by simp[Fm.ins],by simp[Fm.kids]⟩;intro g hg y hy;simp[Fm.nodes,Fm.bM] at hg;subst hg;simp[Fm.ins] at hy;subst hy;exact Ub hx
 have two:∀{o:Int} {f g:Fm},(∀a∈f.nodes,∀x∈a.ins,Go.Proofs.YthfmaclnccdcbaaGreatDoor.Jh x)→(∀a∈g.nodes,∀x∈a.ins,Go.Proofs.YthfmaclnccdcbaaGreatDoor.Jh x)→(∀a∈(Fm.mk o 0 [] [f,g]).nodes,∀x∈a.ins,Go.Proofs.YthfmaclnccdcbaaGreatDoor.Jh x)∧(Fm.mk o 0 [] [f,g]).ins.length≤1∧(Fm.mk o 0 [] [f,g]).kids.length≤2:=by
  intro o f g h1 h2;refine⟨?_,by simp[Fm.ins],by simp[Fm.kids]⟩;intro a ha;simp[Fm.nodes,Fm.bM] at ha;rcases ha with rfl|ha|ha
  ·intro x hx;simp[Fm.ins] at hx
  ·exact h1 a ha
  ·exact h2 a ha
 have one:∀{o:Int} {f:Fm},(∀a∈f.nodes,∀x∈a.ins,Go.Proofs.YthfmaclnccdcbaaGreatDoor.Jh x)→(∀a∈(Fm.mk o 0 [] [f]).nodes,∀x∈a.ins,Go.Proofs.YthfmaclnccdcbaaGreatDoor.Jh x)∧(Fm.mk o 0 [] [f]).ins.length≤1∧(Fm.mk o 0 [] [f]).kids.length≤2:=by
  intro o f h1;refine⟨?_,by simp[Fm.ins],by simp[Fm.kids]⟩;intro a ha;simp[Fm.nodes,Fm.bM] at ha;rcases ha with rfl|ha
  ·intro x hx;simp[Fm.ins] at hx
  ·exact h1 a ha
 cases h with
 | c h=>exact hc h
 | v h=>exact hv h
 | Fq h g=>exact two (hc h).1 (hv g).1
 | Ru h g=>exact two (hc h).1 (hv g).1
 | UM h g=>exact two (hc h).1 (hc g).1
 | Tj h g=>exact two (hc h).1 (one (hc g).1).1
 | part h=>exact one (hc h).1
 | Tm h g=>exact two (hc h).1 (one (hv g).1).1
theorem SF.fmK {f:Fm} (h:SF f):Go.Proofs.YthfmaclnccdcbaaGreatDoor.Jl f∧f.ins.length≤1∧f.kids.length≤2:=by
 refine⟨⟨by have:=h.size;unfold Go.Proofs.YthfmaclnccdcbaaGreatDoor.mG at this;unfold Go.Proofs.YthfmaclnccdcbaaGreatDoor.pz;exact this,?_⟩,?_⟩
 ·rcases h with h|⟨o,n,ho,h1,h2,rfl⟩
  ·exact (FP h).1
  ·simp[Fm.nodes,Fm.bM,Fm.ins]
 ·rcases h with h|⟨o,n,ho,h1,h2,rfl⟩
  ·exact (FP h).2
  ·simp[Fm.ins,Fm.kids]
def X8 (l:List Cl):Prop:=l=[]∨jZ l∨∃r:Int,iT r∧l=[⟨[r],Fm.zero⟩]
theorem X8.body {l:List Cl} (h:X8 l):∀c∈l,SF c.body:=by
 rcases h with rfl|h|⟨r,hr,rfl⟩
 ·intro c hc;cases hc
 ·intro c hc
  obtain⟨i,hi,rfl⟩:=List.mem_iff_getElem.1 hc;exact .inl (h.2.2 i hi).1
 ·intro c hc
  rw[List.mem_singleton.1 hc];exact SF.zero
theorem X8.len {l:List Cl} (h:X8 l):l.length≤3:=by
 rcases h with rfl|h|⟨r,hr,rfl⟩
 ·simp
 ·exact h.2.1
 ·simp
theorem X8.ok {l:List Cl} (h:X8 l):(∀c∈l,Eu c)∧(gq l).length≤1500:=by
 rcases h with rfl|h|⟨r,hr,rfl⟩
 ·exact⟨fun c hc=>(by cases hc),PX⟩
 ·exact⟨fun c hc=>(yR h c hc).1,Ci h⟩
 ·have h64:∀x∈[r],-9223372036854775808≤x∧x≤9223372036854775807:=fun x hx=>by rw[List.mem_singleton.1 hx];exact hr
  refine⟨fun c hc=>?_,?_⟩
  ·rw[List.mem_singleton.1 hc]
   exact⟨h64,by simp,SF.zero.enc.1,by have:=SF.zero.enc.2;simp only;omega⟩
  ·unfold gq nP
   rw[dD];have e1:=jd (r:=(([⟨[r],Fm.zero⟩]:List Cl).length:Int)) (by simp) (by simp);have e2:=Hq (l:=[r]) (by simp) h64;have e3:=iO SF.zero.enc.2 (by omega);have e4:(List.map nO [⟨[r],Fm.zero⟩]).flatten.length=(fU [r]).length+(encR (bV Fm.zero)).length:=by simp[nO]
   rw[e4];simp only[List.length_singleton] at e2;omega
structure AP (N:Nat) (x:Pa):Prop where
 ns:∀r∈gI x,iT r
 td:∀f∈x.td,SF f
 tn:x.td.length≤2
 tc:X8 x.tc
 cl:X8 x.cl
 en:x.ea.length≤N
 ea:∀e∈x.ea,iT e.file∧iT e.day
 fx:SF x.fx
theorem ShA.sp {x:Pa} (h:ShA x):AP 2 x:=by
 refine⟨fun r hr=>?_,fun f hf=>.inl (h.td f hf),h.tn,h.tc.imp id .inl,h.cl.imp id .inl,h.en,fun e he=>?_,?_⟩
 ·have:=h.ns r hr;exact⟨by omega,by omega⟩
 ·have:=h.ea e he;exact⟨⟨by omega,by omega⟩,by omega,by omega⟩
 ·rcases h.fx with e|e
  ·rw[e];exact SF.zero
  ·exact .inl e
theorem AP.zero:AP 0 Pa.zero:=by
 refine⟨?_,by simp[Pa.zero],by simp[Pa.zero],.inl rfl,.inl rfl,by simp[Pa.zero],by simp[Pa.zero],SF.zero⟩;intro r hr;simp[gI,Pa.zero] at hr;subst hr;exact⟨by omega,by omega⟩
theorem AP.mono {N M:Nat} {x:Pa} (h:AP N x) (hl:N≤M):AP M x:=⟨h.ns,h.td,h.tn,h.tc,h.cl,by have:=h.en;omega,h.ea,h.fx⟩
theorem AP.szA {N:Nat} {x:Pa} (h:AP N x):SzA x:=⟨fun f hf=>(h.td f hf).size,fun c hc=>(h.tc.body c hc).size,fun c hc=>(h.cl.body c hc).size,h.fx.size⟩
theorem AP.szM {N:Nat} {x:Pa} (h:AP N x):V5 x:=by
 refine⟨fun f hf=>(h.td f hf).fmK.1,fun c hc=>(h.tc.body c hc).fmK.1,fun c hc=>(h.cl.body c hc).fmK.1,h.fx.fmK.1,?_,?_⟩
 ·have h1:=h.ns x.sn (by simp[gI])
  have h2:=h.ns x.sd (by simp[gI]);exact⟨h1.1,h1.2,h2.1,h2.2⟩
 ·have h1:=h.tn
  have h2:=h.tc.len;have h3:=h.fx.fmK.2;omega
theorem AP.enc {N:Nat} {x:Pa} (h:AP N x) (hN:N≤1000):uZ x:=by
 have htd:(rO x.td).length≤450*x.td.length:=iK (fun f=>encR (gu f)) fun f hf=>iO (kD (h.td f hf).enc.2) (by omega)
 have htn:450*x.td.length≤450*2:=Nat.mul_le_mul_left _ h.tn;have e1:=jd (r:=(x.td.length:Int)) (by omega) (by have:=h.tn;omega);have e2:=iO (jc h.tc.ok.2) (by omega);have htx:(lX x.td x.tc).length≤3000:=by
  unfold lX;rw[dD,dD];omega
 have hen:(kM x.ea).length≤20*x.ea.length:=iK oO fun e he=>by
  have:=h.ea e he;unfold oO;rw[dD];have:=jd this.1.1 this.1.2;have:=jd (h.ea e he).2.1 (h.ea e he).2.2;omega
 have adE:20*x.ea.length≤20*N:=Nat.mul_le_mul_left _ h.en;have e3:=jd (r:=(x.ea.length:Int)) (by omega) (by have:=h.en;omega);have hkd:(iE x).length≤24000:=by
  unfold iE;split
  ·rw[dD,dD]
   have:=iO (mQ htx) (by omega);omega
  ·split
   ·have:=iO (kD h.fx.enc.2) (by omega)
    omega
   ·simp
 have hac:(sS x).length≤1510:=by
  unfold sS;split
  ·simp
  ·exact iO (jc h.cl.ok.2) (by omega)
 have hn1:=iK PA.encI (B:=10) (l:=gI x) fun r hr=>jd (h.ns r hr).1 (h.ns r hr).2
 have hn2:(gI x).length=11:=rfl;rw[hn2] at hn1;refine⟨h.ns,fun f hf=>(h.td f hf).ok,h.tc.ok.1,h.cl.ok.1,fun e he=>h.ea e he,h.fx.ok,by omega,by have:=h.tc.ok.2;omega,by have:=h.cl.ok.2;omega,?_⟩;unfold NK;rw[dD,dD];omega
theorem lS (x:Pa):(∀r∈gI x,iT r)↔iT x.k∧iT x.d∧iT x.n∧iT x.f∧iT x.o∧iT x.p∧iT x.q∧iT x.u∧iT x.m∧iT x.sn∧iT x.sd:=by
 simp[gI]
theorem AP.vO {N:Nat} {x:Pa} (h:AP N x) (hw:Int) {b:Int} (hb:iT b):AP (N+2) (vO x hw b):=by
 have two:iT 2:=⟨by omega,by omega⟩
 obtain⟨n1,n2,n3,n4,n5,n6,n7,n8,n9,n10,n11⟩:=(lS x).1 h.ns;have hl:x.ea.length≤N+2:=by have:=h.en;omega
 unfold PA.vO
 by_cases e0:hw=0
 ·rw[if_pos e0];exact⟨(lS _).2 ⟨hb,n2,n3,n4,n5,n6,n7,n8,n9,n10,n11⟩,h.td,h.tn,h.tc,h.cl,hl,h.ea,h.fx⟩
 rw[if_neg e0]
 by_cases e1:hw=1
 ·rw[if_pos e1];exact⟨(lS _).2 ⟨n1,hb,n3,n4,n5,n6,n7,n8,n9,n10,n11⟩,h.td,h.tn,h.tc,h.cl,hl,h.ea,h.fx⟩
 rw[if_neg e1]
 by_cases e2:hw=2
 ·rw[if_pos e2];exact⟨(lS _).2 ⟨n1,n2,hb,n4,n5,n6,n7,n8,n9,n10,n11⟩,h.td,h.tn,h.tc,h.cl,hl,h.ea,h.fx⟩
 rw[if_neg e2]
 by_cases e3:hw=3
 ·rw[if_pos e3];exact⟨(lS _).2 ⟨n1,n2,n3,hb,n5,n6,n7,n8,n9,n10,n11⟩,h.td,h.tn,h.tc,h.cl,hl,h.ea,h.fx⟩
 rw[if_neg e3]
 by_cases e4:hw=4
 ·rw[if_pos e4];exact⟨(lS _).2 ⟨n1,n2,n3,n4,hb,n6,n7,n8,n9,n10,n11⟩,h.td,h.tn,h.tc,h.cl,hl,h.ea,h.fx⟩
 rw[if_neg e4]
 by_cases e5:hw=5
 ·rw[if_pos e5];exact⟨(lS _).2 ⟨n1,n2,n3,n4,n5,hb,n7,n8,n9,n10,n11⟩,h.td,h.tn,h.tc,h.cl,hl,h.ea,h.fx⟩
 rw[if_neg e5]
 by_cases e6:hw=6
 ·rw[if_pos e6];exact⟨(lS _).2 ⟨n1,n2,n3,n4,n5,n6,hb,n8,n9,n10,n11⟩,h.td,h.tn,h.tc,h.cl,hl,h.ea,h.fx⟩
 rw[if_neg e6]
 by_cases e7:hw=7
 ·rw[if_pos e7];exact⟨(lS _).2 ⟨n1,n2,n3,n4,n5,n6,n7,hb,n9,n10,n11⟩,h.td,h.tn,h.tc,h.cl,hl,h.ea,h.fx⟩
 rw[if_neg e7]
 by_cases e8:hw=8
 ·rw[if_pos e8];exact⟨(lS _).2 ⟨n1,n2,n3,n4,n5,n6,n7,n8,hb,n10,n11⟩,h.td,h.tn,h.tc,h.cl,hl,h.ea,h.fx⟩
 rw[if_neg e8]
 by_cases e9:hw=9
 ·rw[if_pos e9];exact⟨(lS _).2 ⟨n1,n2,n3,n4,n5,n6,n7,n8,n9,hb,two⟩,h.td,h.tn,h.tc,h.cl,hl,h.ea,h.fx⟩
 rw[if_neg e9]
 by_cases e10:hw=10
 ·rw[if_pos e10]
  refine⟨h.ns,fun f hf=>?_,by simp,.inl rfl,h.cl,hl,h.ea,h.fx⟩;rw[List.mem_singleton.1 hf];exact .inr ⟨b,0,hb,by omega,by omega,rfl⟩
 rw[if_neg e10]
 by_cases e11:hw=11
 ·rw[if_pos e11];exact⟨h.ns,h.td,h.tn,h.tc,.inr (.inr ⟨b,hb,rfl⟩),hl,h.ea,h.fx⟩
 rw[if_neg e11]
 by_cases e12:hw=12
 ·rw[if_pos e12]
  refine⟨h.ns,h.td,h.tn,h.tc,h.cl,?_,fun e he=>?_,h.fx⟩
  ·have:=h.en
   simp only[dD,List.length_cons,List.length_nil];omega
  ·rcases List.mem_append.1 he with he|he
   ·exact h.ea e he
   ·rcases List.mem_cons.1 he with rfl|he
    ·exact⟨hb,by simp only;omega,by simp only;omega⟩
    ·rw[List.mem_singleton.1 he]
     exact⟨⟨by simp only;omega,by simp only;omega⟩,hb⟩
 rw[if_neg e12];exact⟨h.ns,h.td,h.tn,h.tc,h.cl,hl,h.ea,.inr ⟨b,1,hb,by omega,by omega,rfl⟩⟩
end PA
namespace PA
open Go Go.RowKit
def Pj (J:Mem) (N:Nat) (Ls:List (Ac×Pa)):Prop:=∀p∈Ls,mM J p.1 p.2∧AP N p.2
theorem Pj.mono {I J:Mem} {N M:Nat} {Ls:List (Ac×Pa)} (h:Pj I N Ls) (hl:Mem.le I J) (hn:N≤M):Pj J M Ls:=fun p hp=>⟨(h p hp).1.mono hl,(h p hp).2.mono hn⟩
theorem Pj.append {J:Mem} {N:Nat} {Ls Ms:List (Ac×Pa)} (h:Pj J N Ls) (g:Pj J N Ms):Pj J N (Ls++Ms):=fun p hp=>(List.mem_append.1 hp).elim (h p) (g p)
theorem Ll {P:Ac→Pa→Prop}:∀zl:List Ac,(∀z∈zl,∃p,P z p)→∃Ls:List (Ac×Pa),Ls.map (·.1)=zl∧∀q∈Ls,P q.1 q.2
 | [],_=>⟨[],rfl,fun q hq=>(by cases hq)⟩
 | z::zl,h=>by
  obtain⟨p,hp⟩:=h z (List.mem_cons_self ..);obtain⟨Ls,h1,h2⟩:=Ll zl fun y hy=>h y (List.mem_cons_of_mem _ hy)
  refine⟨(z,p)::Ls,by rw[List.map_cons,h1],fun q hq=>?_⟩;rcases List.mem_cons.1 hq with rfl|hq
  ·exact hp
  ·exact h2 q hq
end PA
namespace Go.Proofs.YthfmaclnccdcbaaGreatDoor
open Go.RowKit PA
theorem Fb {g o:Nat} {x:Ac} {w w':World} (h:Sem.run Tryz.prog (storeCells ⟨g,o,none⟩ x.cells 0) w=.ok () w'):Sem.run Tryz.prog (Qi (.pointer (some ⟨g,o,none⟩)) (.agg x.cells.toArray)) w=.ok () w':=by
 have hk:¬(Value.agg x.cells.toArray).cells.size≠kA:=by
  intro hc;exact hc rfl
 show Sem.run Tryz.prog (storeVar 36 ⟨g,o,none⟩ (.agg x.cells.toArray)) w=_;unfold storeVar;rw[Sem.run_bind,bC];show Sem.run Tryz.prog (if (Value.agg x.cells.toArray).cells.size≠kA then _ else _) w=_;rw[if_neg hk];exact h
theorem Tq {W w:World} {A:aA} {g N:Nat} {f:Nat→Ac} {tl:List Value} (h:Sat W w (sep (Jz g N f tl) A)) (i:Nat) (hi:i<N):Sem.run Tryz.prog (jC (.pointer (some ⟨g,i*19,none⟩))) w=.ok (.agg (f i).cells.toArray) w:=by
 show Sem.run Tryz.prog (loadVar 36 ⟨g,i*19,none⟩) w=_;unfold loadVar;exact PU (Go.isAgg 36) (Go.sizeOf 36) (loadCells ⟨g,i*19,none⟩) _ (xH w) (bC w) (V9 h i hi)
theorem Jv (xs:List Ac):∀u∈dF xs,u.oneCell'=true:=by
 intro u hu;obtain⟨x,hx,hu⟩:=List.mem_flatMap.1 hu;exact x.one u hu
theorem Lc {W w:World} {A:aA} {E k:Nat} {a:Option Addr} {n c:Nat} {xs:List Value} (h:Sat W w (sep (aT E k a n c xs) A)):∀b,a=some b→∀j u,xs[j]?=some u→w.cell? (b.add j)=some u:=by
 intro b hb j u hu;obtain⟨g,e,hc⟩:=h.Iu (fun e=>by rw[e] at hu;simp at hu);rw[hb] at e;cases e;rw[show (⟨g,0,none⟩:Addr).add j=⟨g,j,none⟩ by unfold Addr.add;split<;>simp_all];exact hc j u hu
def Ph (W:World) (I:Mem) (A:aA) (most:Nat) (e:Ending) (w':World):Prop:=
 ∃(a:Option Addr) (n c:Nat) (Ls:List (Ac×Pa)) (J:Mem),e=.returned (.slice a n c)∧n=Ls.length∧n≤most∧(n=0→a=none∧c=0)∧Mem.le I J∧Pj J 2 Ls∧(∀p∈Ls,bW p.2=true)∧Sat W w' (sep (aT 36 19 a n c (dF (Ls.map (·.1)))) (sep (kn J) A))
attribute [local go_sem ↓] dw dK bC
set_option maxRecDepth 100000 in
set_option maxHeartbeats 8000000 in
theorem KO {W w:World} {A:aA} {I:Mem} (va:Value) (at' how b:Int) (h1:iT at') (h2:iT how) (h3:iT b) (hS:Calls Tryz.prog 14 #[va,.int .i64 12] w (Ph W I A 12)):
 Calls Tryz.prog 20 #[va,.int .i64 at',.int .i64 how,.int .i64 b] w fun e w'=>∃(a a2:Option Addr) (n c c2:Nat) (Ls Ms:List (Ac×Pa)) (J:Mem),e=.returned (.tuple #[.slice a n c,.slice a2 n c2])∧n=Ls.length∧n=Ms.length∧n≤12∧(n=0→a=none∧c=0)∧Mem.le I J∧Pj J 2 Ls∧(∀p∈Ls,bW p.2=true)∧Pj J 4 Ms∧Sat W w' (sep (aT 36 19 a n c (dF (Ls.map (·.1)))) (sep (aT 36 19 a2 n c2 (dF (Ms.map (·.1)))) (sep (kn J) A))):=by
 have HS:=ah hS;have Qn:=ah (And.intro h1 (And.intro h2 h3));obtain⟨Po,dR⟩:∃P:Ending→World→Prop,P=fun e w'=>∃(a a2:Option Addr) (n c c2:Nat) (Ls Ms:List (Ac×Pa)) (J:Mem),e=.returned (.tuple #[.slice a n c,.slice a2 n c2])∧n=Ls.length∧n=Ms.length∧n≤12∧(n=0→a=none∧c=0)∧Mem.le I J∧Pj J 2 Ls∧(∀p∈Ls,bW p.2=true)∧Pj J 4 Ms∧Sat W w' (sep (aT 36 19 a n c (dF (Ls.map (·.1)))) (sep (aT 36 19 a2 n c2 (dF (Ms.map (·.1)))) (sep (kn J) A))):=⟨_,rfl⟩
 rw[←dR];have bK:=ah dR;clear hS h1 h2 h3 dR
 go_enter Tryz.func20,Tryz.ntmps20
 go_wp2_with fail
 refine HS.out.mono ?_;rintro e w1 ⟨a,n,c,Ls,J,rfl,hn,Ui,hn0,hle,hsp,hv,hS1⟩;have hn63:(n:Int)≤12:=by omega
 obtain⟨zl,hzl⟩:=ay (Ls.map (·.1));rw[←hzl] at hS1;have hlen:(dF zl).length=n*19:=by rw[lZ,hzl,List.length_map,hn]
 have pJ:=ah (Lc hS1);have HA2:=ah (hS1.fM 36 19);have hz0:a=none→n=0:=fun e=>by have:=hS1.fJ;have h1:=this.2.2 e;have:=this.1;omega
 have HL:=ah (And.intro hn (And.intro hn0 (And.intro hle (And.intro hsp (And.intro hv (And.intro hzl (And.intro hlen hz0)))))));clear hn Ui hn0 hle hsp hv hS1 hzl hlen hz0 HS
 go_upto_region 3 with (fail)
 go_wp2_with (at_builtin;refine aH rfl _ _ 23 rfl 36 19 248 _ Tryz.underlying23 xC rfl rfl HA2.out rfl (dF zl) HL.out.2.2.2.2.2.2.1 HL.out.2.2.2.2.2.2.2 pJ.out (Jv zl) (by omega) (by unfold maxLen;omega) ?_)
 intro a2 c2 w2 hS2;have abj:Sat W w2 (sep (aT 36 19 a2 n c2 (dF zl)) (sep (kn J) (sep (aT 36 19 a n c (dF zl)) A))):=by simpa only[aF,aC,aj] using (show Sat W w2 (sep (aT 36 19 a2 n c2 (dF zl)) (sep (aT 36 19 a n c (dF zl)) (sep (kn J) A))) by simpa using hS2)
 have H2:=ah abj;clear hS2 abj HA2 pJ
 by_cases n0:n=0
 ·have hz:¬(0:Int)<(n:Int):=by omega
  have HF:Hid (Sat W w2 (sep (aT 36 19 a n c (dF (Ls.map (·.1)))) (sep (aT 36 19 a2 n c2 (dF (Ls.map (·.1)))) (sep (kn J) A)))):=ah (by
   rw[←HL.out.2.2.2.2.2.1];have:=H2.out;simpa only[aF,aC,aj] using this)
  clear n0 H2
  go_wp2
  rw[bK.out];exact⟨a,a2,n,c,c2,Ls,Ls,J,rfl,HL.out.1,HL.out.1,by omega,HL.out.2.1,HL.out.2.2.1,HL.out.2.2.2.1,HL.out.2.2.2.2.1,HL.out.2.2.2.1.mono (Mem.le_refl _) (by omega),HF.out⟩
 ·have hz:(0:Int)<(n:Int):=by omega
  have har:=oM at' (n:Int) w2 Qn.out.1.1 Qn.out.1.2 (by omega) (by omega);obtain⟨k,hk⟩:∃k:Nat,iy at' (n:Int)=(k:Int):=⟨(iy at' n).toNat,by have:=nJ at' n (by omega);omega⟩
  have hkn:k<n:=by have:=nJ at' n (by omega);omega
  rw[hk] at har;have HAR:=ah har;have hkz:(k:Int)<(n:Int):=by omega
  obtain⟨g,tl,rfl,hc1,hc2,hc3,h3⟩:=UN (by have:=HL.out;rw[this.2.2.2.2.2.1,List.length_map,←this.1]) (by omega) H2.out;obtain⟨f,hf⟩:∃f:Nat→Ac,f=fun i=>zl.getD i default:=⟨_,rfl⟩
  rw[←hf] at h3;have hkl:k<Ls.length:=by have:=HL.out.1;omega
  obtain⟨p,hp⟩:∃p,Ls[k]?=some p:=⟨_,List.getElem?_eq_getElem hkl⟩
  have hfk:f k=p.1:=by
   rw[hf,HL.out.2.2.2.2.2.1];simp only;rw[List.getD_eq_getElem?_getD,List.getElem?_map,hp];rfl
  have hpm:=List.mem_of_getElem? hp;obtain⟨hpi,hps⟩:=HL.out.2.2.2.1 p hpm;have hld:=Tq h3 k hkn;rw[hfk] at hld;have hsp:=LQ p.1 p.2 how b hpi Qn.out.2.1 Qn.out.2.2 (by have:=hps.en;omega) h3.p1;have hqs:=hps.vO (iy how 14) Qn.out.2.2;have HSP:=ah hsp;have HC:=ah (And.intro hc1 (And.intro hc2 (And.intro hc3 (And.intro hf (And.intro hp (And.intro hqs hkn))))));clear n0 har hk hkn h3 hf hkl hp hfk hpm hpi hps hsp hqs hc1 hc2 hc3 H2
  go_upto_region 5 with (fail)
  go_wp2_with fail
  refine HAR.out.mono ?_;rintro e w3 ⟨rfl,rfl⟩
  go_upto_region 6 with (fail)
  go_wp2_with fail
  refine HSP.out.mono ?_;rintro e w4 ⟨z',J',rfl,hle',hiz,h4⟩;obtain⟨wA,hsA,hA⟩:=Wh h4.p1 k HC.out.2.2.2.2.2.2 z';have hst:=Fb hsA;have h5:=Tv HC.out.1 HC.out.2.1 HC.out.2.2.1 hA;have hset:(List.range n).map (RG f k z')=(Ls.set k (z',vO p.2 (iy how 14) b)).map (·.1):=by
   rw[HC.out.2.2.2.1];refine List.ext_getElem? fun i=>?_
   rw[List.getElem?_map,List.getElem?_map,List.getElem?_set]
   by_cases hi:i<n
   ·rw[List.getElem?_range hi]
    by_cases e:k=i
    ·subst e
     simp[RG,HL.out.1 ▸ hi]
    ·rw[if_neg e]
     have:i<Ls.length:=by have:=HL.out.1;omega
     simp only[Option.map_some,RG];rw[if_neg (Ne.symm e),HL.out.2.2.2.2.2.1,List.getD_eq_getElem?_getD,List.getElem?_map,List.getElem?_eq_getElem this];rfl
   ·have h1:Ls.length≤i:=by have:=HL.out.1;omega
    rw[List.getElem?_eq_none (by simpa using hi),List.getElem?_eq_none h1]
    by_cases e:k=i
    ·have:=HC.out.2.2.2.2.2.2;omega
    ·rw[if_neg e];rfl
  rw[hset] at h5;have HF:Hid (Sat W wA (sep (aT 36 19 a n c (dF (Ls.map (·.1)))) (sep (aT 36 19 (some ⟨g,0,none⟩) n c2 (dF ((Ls.set k (z',vO p.2 (iy how 14) b)).map (·.1)))) (sep (kn J') A)))):=ah (by
   rw[HL.out.2.2.2.2.2.1] at h5;simpa only[aF,aC,aj] using h5)
  have HI:=ah (And.intro hle' hiz);clear hle' hiz h4 hsA hA h5 hset HSP hld
  go_wp2
  rw[bK.out];refine⟨a,some ⟨g,0,none⟩,n,c,c2,Ls,_,J',rfl,HL.out.1,by rw[List.length_set];exact HL.out.1,by omega,HL.out.2.1,eH HL.out.2.2.1 HI.out.1,HL.out.2.2.2.1.mono HI.out.1 (Nat.le_refl _),HL.out.2.2.2.2.1,fun q hq=>?_,HF.out⟩;rcases List.mem_or_eq_of_mem_set hq with hq|rfl
  ·exact⟨(HL.out.2.2.2.1 q hq).1.mono HI.out.1,(HL.out.2.2.2.1 q hq).2.mono (by omega)⟩
  ·exact⟨HI.out.2,HC.out.2.2.2.2.2.1⟩
end Go.Proofs.YthfmaclnccdcbaaGreatDoor
namespace PA
open Go Go.RowKit
theorem Xm {J:Mem} {zl:List Ac} {ps:List Pa} (h:gG (mM J) zl ps) (hm:Made ps) (hn:zl.length≤14):∀(i:Nat) (z:Ac),zl[i]?=some z→∃p,mM J z p∧AP 2 p∧bW p=true∧p.n=4*(i:Int):=by
 intro i z hz;obtain⟨hi,rfl⟩:=List.getElem?_eq_some_iff.1 hz;have hl:=h.length;have hp:i<ps.length:=by omega
 have h1:=h.get i hi hp;obtain⟨h2,h3,-⟩:=hm i hp;have hf:Ai (ps.take i)≤100:=by
  have:Ai (ps.take i)≤(ps.take i).length:=List.length_filter_le _ _;rw[List.length_take] at this;omega
 have hb:0≤ps[i].n∧ps[i].n≤1000000:=by rw[h3];omega
 exact⟨ps[i],h1,(JX hf h2 hb).sp,JY hf h2 hb,h3⟩
end PA

/- Part of a proof. -/
import Derived.Test.YthfmaclnccdcbaaGreatDoorZFO21
import Derived.Test.YthfmaclnccdcbaaGreatDoorZFO6
namespace PA
open Go Go.RowKit
theorem yH {I:Mem} {a:Option Addr} {n c:Nat} {l:List Ea} (h:(Qu.slice 2).rel I [.slice a n c] l) {i:Nat} {x:Ea} (hx:l[i]?=some x):
 ∃b o,a=some ⟨b,o,none⟩∧∀w',Ext I w'→w'.cell? ⟨b,o+i*2,none⟩=some (.int .i64 x.file)∧w'.cell? ⟨b,o+i*2+1,none⟩=some (.int .i64 x.day):=by
 obtain⟨b,o,cs,rfl,hr,-,hc⟩:=mJ h hx (by omega);have e:cs=[.int .i64 x.file,.int .i64 x.day]:=hr;subst e;exact⟨b,o,rfl,fun w' he=>⟨hc w' he 0 _ rfl,hc w' he 1 _ rfl⟩⟩
theorem Rz {f:Int} {l:List Ea} {j:Nat} {e:Ea} (h:l[j]?=some e):Jf f l j=(aP e.file 0 4095&&(decide (e.file≠f)&&(aP e.day 0 131072&&!((l.take j).any fun g=>decide (g.file=e.file))))):=by
 unfold Jf;rw[h]
theorem Lh {l:List Ea} {k:Nat} {g:Ea} {p:Ea→Bool} (h:l[k]?=some g):(l.take (k+1)).any p=((l.take k).any p||p g):=by
 rw[List.take_add_one,h,List.any_append];simp
end PA
namespace Go.Proofs.YthfmaclnccdcbaaGreatDoor
open Go.RowKit PA
theorem iq {W w:World} {A:aB} {q:Nat} {x:Ac} (h:Sat W w (sep (blk q (.cells x.cells.toArray 36 (0,0))) A)):
 Sem.run Tryz.prog (mg (.pointer (some ⟨q,0,none⟩))) w=.ok (.agg x.cells.toArray) w:=
 gB fun i v hv=>(ay h i v hv).1
theorem bJ (n lo hi:Int) (w:World):Calls Tryz.prog 60 #[.int .i64 n,.int .i64 lo,.int .i64 hi] w fun e w'=>e=.returned (.bool (aP n lo hi))∧w=w':=by
 obtain⟨r,hr⟩:=aC (aP n lo hi);rw[←hr];have HR:=ah hr;clear hr;by_cases h1:lo≤n
 ·by_cases h2:n≤hi
  ·have HF:Hid (r=true):=ah (by rw[HR.out];unfold aP;rw[decide_eq_true h1,decide_eq_true h2];rfl)
   go_enter Tryz.func60,Tryz.ntmps60;go_wp2;go_ret;exact⟨by rw[HF.out];try rfl,rfl⟩
  ·have HF:Hid (r=false):=ah (by rw[HR.out];unfold aP;rw[decide_eq_true h1,decide_eq_false h2];rfl)
   go_enter Tryz.func60,Tryz.ntmps60;go_wp2;go_ret;exact⟨by rw[HF.out];try rfl,rfl⟩
 ·have HF:Hid (r=false):=ah (by rw[HR.out];unfold aP;rw[decide_eq_false h1];rfl)
  go_enter Tryz.func60,Tryz.ntmps60;go_wp2;go_ret;exact⟨by rw[HF.out];try rfl,rfl⟩
end Go.Proofs.YthfmaclnccdcbaaGreatDoor
namespace PA
open Go Go.RowKit
def knF (S:Int→Bool) (k:Int):Option Value:=if S k=true then some (.bool true) else none
theorem Zu (S:Int→Bool) (k:Int):mY (knF S) k (some (.bool true))=knF (fun i=>S i||i==k):=by
 funext i;unfold mY knF;by_cases h:i=k
 ·subst h;simp
 ·have e:(i==k)=false:=by simpa using h
  rw[if_neg h];simp only[e,Bool.or_false]
def Ua (F:Int) (l:List Ea) (j:Nat) (k:Int):Bool:=k==F||(l.take j).any fun g=>decide (g.file=k)
theorem Zv {F:Int} {l:List Ea} {j:Nat} {e:Ea} (h:l[j]?=some e):(fun i=>Ua F l j i||i==e.file)=Ua F l (j+1):=by
 funext i;unfold Ua;rw[Lh h,Bool.or_assoc];congr 2;by_cases hi:i=e.file
 ·rw[hi];simp
 ·have e1:(i==e.file)=false:=by simpa using hi
  rw[e1,decide_eq_false (Ne.symm hi)]
theorem Y8 {F:Int} {l:List Ea} {j:Nat} {e:Ea} (h:l[j]?=some e):(Ua F l j e.file||(!aP e.file 0 4095||!aP e.day 0 131072))=!Jf F l j:=by
 rw[Rz h];unfold Ua;by_cases hF:e.file=F
 ·rw[hF];simp
 ·have e1:(e.file==F)=false:=by simpa using hF
  rw[e1,decide_eq_true hF];cases (List.take j l).any fun g=>decide (g.file=e.file)<;>cases aP e.file 0 4095<;>cases aP e.day 0 131072<;>rfl
def TN (x:Pa):Bool:=aP x.q (-1) 4095&&(decide (x.q≠x.f)&&(decide (x.ea.length≤8)&&(decide (FT x.td x.tc=0)&&mX x.f x.ea x.ea.length)))
structure YL (x:Pa):Prop where
 td:∀f∈x.td,Go.Proofs.YthfmaclnccdcbaaGreatDoor.KQ f
 tc:∀c∈x.tc,Go.Proofs.YthfmaclnccdcbaaGreatDoor.KQ c.body
 cl:∀c∈x.cl,Go.Proofs.YthfmaclnccdcbaaGreatDoor.KQ c.body
 fx:Go.Proofs.YthfmaclnccdcbaaGreatDoor.KQ x.fx
 sh:Go.Proofs.YthfmaclnccdcbaaGreatDoor.VB ⟨x.sn,x.sd⟩
 ln:x.td.length+x.tc.length+x.fx.ins.length+x.fx.kids.length≤4000000
end PA
namespace Go.Proofs.YthfmaclnccdcbaaGreatDoor
open Go.RowKit PA
set_option maxRecDepth 100000
set_option maxHeartbeats 8000000
theorem XO (w:World):(zeroValue 4).run Tryz.prog w=.ok (.bool false) w:=by kernel_rfl
def Qc (KC mb:Nat) (S:Int→Bool) (n:Nat):aB:=sep (blk KC (.cells #[.map (some mb)] 144 (0,0))) (xB mb (knF S) n)
theorem PE {W w:World} {A:aB} (KC mb:Nat) (S:Int→Bool) (n:Nat) (fl dy:Int) (h:Sat W w (sep (Qc KC mb S n) A)):
 Calls Tryz.prog 158 #[.agg #[.int .i64 fl,.int .i64 dy],.pointer (some ⟨KC,0,none⟩)] w fun e w'=>e=.returned (.bool (S fl||(!aP fl 0 4095||!aP dy 0 131072)))∧∃n',Sat W w' (sep (Qc KC mb (fun i=>S i||i==fl) n') A):=by
 unfold Qc at h;rw[aj] at h;have h1:=h.alloc (.cells #[.int .i64 fl,.int .i64 dy] 93);obtain⟨B,hB⟩:=aC (w.heap.size);obtain⟨w1,hw1⟩:=aC (w.alloc (.cells #[.int .i64 fl,.int .i64 dy] 93));rw[←hB,←hw1] at h1;have HB:=ah (aH hB hw1);obtain⟨b0,hb0⟩:=aC (S fl);obtain⟨b1,hb1⟩:=aC (aP fl 0 4095);obtain⟨b2,hb2⟩:=aC (aP dy 0 131072);have C1:Hid (∀w',Calls Tryz.prog 60 #[.int .i64 fl,.int .i64 0,.int .i64 4095] w' fun e w''=>e=.returned (.bool b1)∧w'=w''):=ah fun w'=>by rw[hb1];exact bJ _ _ _ w'
 have C2:Hid (∀w',Calls Tryz.prog 60 #[.int .i64 dy,.int .i64 0,.int .i64 131072] w' fun e w''=>e=.returned (.bool b2)∧w'=w''):=ah fun w'=>by rw[hb2];exact bJ _ _ _ w'
 have hlk:=BR (P:=Tryz.prog) (T:=144) Tryz.underlying144 Tryz.underlying3 XO h1.p2 fl false;have e0:(knF S fl).getD (.bool false)=.bool b0:=by unfold knF;rw[←hb0];cases b0<;>rfl
 rw[e0] at hlk;simp only[Bool.false_eq_true,if_false] at hlk;obtain⟨w2,n',hup,-,h3⟩:=nD (P:=Tryz.prog) (T:=144) Tryz.underlying144 Tryz.underlying3 h1.p2 fl (.bool true);rw[Zu] at h3;have k0:w1.cell? ⟨B,0,none⟩=some (.int .i64 fl):=h1.cell 0;have kc:w1.cell? ⟨KC,0,none⟩=some (.map (some mb)):=h1.p1.cell 0;have H3:Hid (Sat W w2 (sep (blk B (.cells #[.int .i64 fl,.int .i64 dy] 93 (0,0))) (sep (Qc KC mb (fun i=>S i||i==fl) n') A))):=ah (by unfold Qc;simpa only[aA,au,aj] using h3);rw[←hb0,←hb1,←hb2];obtain⟨Po,dS⟩:∃P:Ending→World→Prop,P=fun e w'=>e=.returned (.bool (b0||(!b1||!b2)))∧∃n',Sat W w' (sep (Qc KC mb (fun i=>S i||i==fl) n') A):=⟨_,rfl⟩
 rw[←dS];have bK:=ah dS;clear h h1 h3 hB hw1 e0 hb0 hb1 hb2 dS;go_enter Tryz.func158,Tryz.ntmps158;go_upto_region 1 with fail;rw[←HB.out.1,←HB.out.2];go_upto_region 3 with fail;clear k0 kc hlk hup;have k0:w2.cell? ⟨B,0,none⟩=some (.int .i64 fl):=H3.out.cell 0;have k1:w2.cell? ⟨B,1,none⟩=some (.int .i64 dy):=H3.out.cell 1;have HF:=ah (Exists.intro (p:=fun n'=>Sat W w2 (sep (Qc KC mb (fun i=>S i||i==fl) n') A)) n' H3.out.forget);clear H3;cases b0 with
 | true=>
  go_wp2;rw[bK.out];exact⟨rfl,HF.out⟩
 | false=>
  go_wp2_with fail;refine (C1.out _).mono ?_;rintro e w3 ⟨rfl,rfl⟩;cases b1 with
  | false=>
   go_wp2;rw[bK.out];exact⟨rfl,HF.out⟩
  | true=>
   go_wp2_with fail;refine (C2.out _).mono ?_;rintro e w3 ⟨rfl,rfl⟩;go_wp2;rw[bK.out];exact⟨by cases b2<;>rfl,HF.out⟩
theorem Jg {W w:World} {A:aB} {I:Mem} (KC mb:Nat) (F:Int) (n0:Nat) (a:Option Addr) (n c:Nat) (l:List Ea) (hv:(Qu.slice 2).rel I [.slice a n c] l) (h:Sat W w (sep (Qc KC mb (Ua F l 0) n0) (sep (kn I) A))):
 Calls Tryz.prog 196 #[.slice a n c,.func (.func 158) #[] #[.pointer (some ⟨KC,0,none⟩)]] w fun e w'=>(∃r:Int,e=.returned (.int .i64 r)∧decide (0≤r)=!mX F l l.length)∧Sat W w' (sep (kn I) A):=by
 have hn:=(aJ hv).1;have hn63:=(aJ hv).2.2;obtain⟨Po,dS⟩:∃P:Ending→World→Prop,P=fun e w'=>(∃r:Int,e=.returned (.int .i64 r)∧decide (0≤r)=!mX F l l.length)∧Sat W w' (sep (kn I) A):=⟨_,rfl⟩
 rw[←dS];have bK:=ah dS;have HX:=ah (aH hv hn);have H:=ah h;have HD:Hid (∀w' S m,Sat W w' (sep (Qc KC mb S m) (sep (kn I) A))→Sat W w' (sep (kn I) A)):=ah fun w' S m h'=>by
  unfold Qc at h';rw[aj] at h';obtain⟨es,cl,-,-,-,h9⟩:=h'.forget.nO;exact h9.forget
 clear hv h hn dS;go_enter Tryz.func196,Tryz.ntmps196;go_wp2;go_loopw [8] (fun iv wr=>∃(i m:Nat),iv=.int .i64 i∧i≤n∧Hid (mX F l i=true)∧Sat W wr (sep (Qc KC mb (Ua F l i) m) (sep (kn I) A))) (fun iv _=>n-(intOf iv).toNat)
 case atStart=>exact⟨0,n0,rfl,by omega,ah rfl,H.out⟩
 case round=>
  obtain⟨i,m,rfl,hi,HT,hS⟩:=hrel;clear H;by_cases hlt:i<n
  ·have hltz:(i:Int)<(n:Int):=by omega
   obtain⟨e,he⟩:∃e,l[i]?=some e:=⟨_,iM (by have:=HX.out.2;omega)⟩
   obtain⟨b,o,rfl,hcell⟩:=yH HX.out.1 he;obtain⟨j0,j1⟩:=hcell wr hS.p1.ext;have hcall:=PE KC mb (Ua F l i) m e.file e.day hS;rw[Y8 he,Zv he] at hcall;obtain⟨be,hbe⟩:=aC (Jf F l i);rw[←hbe] at hcall;have HC:=ah hcall;have HE:=ah (aH hbe hlt);obtain⟨ef,hef⟩:=aC (e.file);obtain⟨ed,hed⟩:=aC (e.day);rw[←hef] at j0 HC;rw[←hed] at j1 HC;clear hcell he hS hcall hbe hlt hi hef hed;go_wp2_with fail;refine HC.out.mono ?_;rintro e' w2 ⟨rfl,m',h2⟩;clear j0 j1 HC;cases be with
   | true=>
    have H2:=ah h2;have HN:Hid (mX F l (i+1)=true):=ah (by rw[Hf,HT.out,←HE.out.1];rfl);clear h2;go_wp2;go_roundw;case rel=>exact⟨i+1,m',by go_num,by have:=HE.out.2;omega,HN,H2.out⟩
    case measure=>simp[intOf];have:=HE.out.2;omega
   | false=>
    have HF:Hid (mX F l l.length=false):=ah (LW (by have:=HX.out.2;have:=HE.out.2;omega) HE.out.1.symm);have H2:=ah (HD.out _ _ _ h2);clear h2;go_wp2;rw[bK.out];exact⟨⟨i,rfl,by rw[HF.out,decide_eq_true (by omega)];rfl⟩,H2.out⟩
  ·obtain rfl:i=n:=by omega
   have HF:Hid (mX F l l.length=true):=ah (by rw[←HX.out.2];exact HT.out);have H2:=ah (HD.out _ _ _ hS);clear hS hlt hi;go_wp2;rw[bK.out];exact⟨⟨-1,rfl,by rw[HF.out];rfl⟩,H2.out⟩
theorem LX {W w:World} {A:aB} {I:Mem} (KC mb:Nat) (F:Int) (n0:Nat) (a:Option Addr) (n c:Nat) (l:List Ea) (hv:(Qu.slice 2).rel I [.slice a n c] l) (h:Sat W w (sep (Qc KC mb (Ua F l 0) n0) (sep (kn I) A))):
 Calls Tryz.prog 157 #[.slice a n c,.func (.func 158) #[] #[.pointer (some ⟨KC,0,none⟩)]] w fun e w'=>e=.returned (.bool (!mX F l l.length))∧Sat W w' (sep (kn I) A):=by
 have HI:=ah (Jg KC mb F n0 a n c l hv h);obtain⟨rv,dQ⟩:=aC (!mX F l l.length);rw[←dQ] at HI ⊢;clear hv h dQ;go_enter Tryz.func157,Tryz.ntmps157;go_wp2_with fail;refine HI.out.mono ?_;rintro e w2 ⟨⟨r,rfl,hr⟩,h2⟩;have H2:=ah h2;have HR:=ah hr;clear h2 HI hr;go_wp2;go_ret;exact⟨by first|exact congrArg (fun b=>Ending.returned (.bool b)) HR.out|simp[←HR.out],H2.out⟩
attribute [local go_sem ↓] aY bI aV
theorem Jv {W w:World} {A:aB} {I:Mem} (z:Ac) (x:Pa) (hA:lT I z x) (hz:YL x) (h:Sat W w (sep (kn I) A)):
 Calls Tryz.prog 116 #[.agg z.cells.toArray] w fun e w'=>∃J,e=.returned (.bool (TN x))∧Mem.le I J∧Sat W w' (sep (kn J) A):=by
 have h1:=(h.alloc (.cells z.cells.toArray 36)).p1;obtain⟨B,hB⟩:=aC (w.heap.size);obtain⟨w1,hw1⟩:=aC (w.alloc (.cells z.cells.toArray 36));rw[←hB,←hw1] at h1;have HB:=ah (aH hB hw1);obtain⟨b3,hb3⟩:=aC (aP z.q (-1) 4095);obtain⟨te,hte⟩:=aC (FT x.td x.tc);obtain⟨ne,hne⟩:=aC (z.ea.n);obtain⟨rv,dQ⟩:=aC (TN x);have Ei:ne=x.ea.length:=by rw[hne];exact (aJ hA.ea).1
 have jW:rv=(b3&&(decide (z.q≠z.f)&&(decide (ne≤8)&&(decide (te=0)&&mX z.f x.ea x.ea.length)))):=by
  rw[dQ,hb3,hte,Ei,hA.q,hA.f];rfl
 have bU:=ah jW;have C3:Hid (∀w',Calls Tryz.prog 60 #[.int .i64 z.q,.int .i64 (-1),.int .i64 4095] w' fun e w''=>e=.returned (.bool b3)∧w'=w''):=ah fun w'=>by rw[hb3];exact bJ _ _ _ w'
 have C4:Hid (∀w' A',Sat W w' (sep (kn I) A')→Calls Tryz.prog 128 #[.agg #[.slice z.td.a z.td.n z.td.c,.slice z.tc.a z.tc.n z.tc.c]] w' fun e w''=>∃J,e=.returned (.int .i64 te)∧Mem.le I J∧Sat W w'' (sep (kn J) A')):=ah fun w' A' h'=>by
  rw[hte];exact yR z.td.a z.td.n z.td.c z.tc.a z.tc.n z.tc.c x.td x.tc hA.td hA.tc hz.td hz.tc h'
 have UL:=ah (aH hA.ea Ei);have k3:=(ay h1.p1 3 _ rfl).1;have k6:=(ay h1.p1 6 _ rfl).1;have k11:=(ay h1.p1 11 _ rfl).1;have k12:=(ay h1.p1 12 _ rfl).1;have k14:=(ay h1.p1 14 _ rfl).1;have agl:(ne:Int)≤9223372036854775807:=by rw[hne];exact (aJ hA.ea).2.2
 have BO:w1.cell? ⟨B,14,none⟩=some (.slice z.ea.a ne z.ea.c):=by rw[hne];exact k14
 have XZ:=ah hne;have H1:=ah h1;rw[←dQ];obtain⟨Po,dS⟩:∃P:Ending→World→Prop,P=fun e w'=>∃J,e=.returned (.bool rv)∧Mem.le I J∧Sat W w' (sep (kn J) A):=⟨_,rfl⟩
 rw[←dS];have bK:=ah dS;have hmf:∀(fn:Fn) (first cap:Array Value) (w:World),(Instr.makeFunc fn first cap).run Tryz.prog w=.ok (.func fn first cap) w:=fun _ _ _ _=>rfl
 have hmm:=@run_makeMap Tryz.prog;clear hA hz h h1 hB hw1 hb3 hte hne dQ jW Ei k14 dS;go_enter Tryz.func116,Tryz.ntmps116;go_upto_region 1 with fail;rw[←HB.out.1,←HB.out.2];cases b3 with
 | false=>
  have HF:Hid (rv=false):=ah (by rw[bU.out];rfl);go_wp2_with fail;refine (C3.out _).mono ?_;rintro e w2 ⟨rfl,rfl⟩;go_wp2;rw[bK.out];exact⟨I,by (rw[HF.out];try rfl),bW _,H1.out.p1.drop⟩
 | true=>
  go_wp2_with fail;refine (C3.out _).mono ?_;rintro e w2 ⟨rfl,rfl⟩;by_cases Zn:z.q=z.f
  ·have HF:Hid (rv=false):=ah (by rw[bU.out,Zn];simp)
   have hqb:(z.q==z.f)=true:=by simpa using Zn
   clear Zn;go_wp2;rw[bK.out];exact⟨I,by (rw[HF.out];try rfl),bW _,H1.out.p1.drop⟩
  ·have hqb:(z.q==z.f)=false:=by simpa using Zn
   by_cases h8:8<ne
   ·have HF:Hid (rv=false):=ah (by rw[bU.out,decide_eq_false (show ¬ne≤8 by omega)];simp)
    have h8z:(8:Int)<(ne:Int):=by omega
    clear Zn h8;go_wp2;rw[bK.out];exact⟨I,by (rw[HF.out];try rfl),bW _,H1.out.p1.drop⟩
   ·have h8z:¬(8:Int)<(ne:Int):=by omega
    have HR2:Hid (rv=(decide (te=0)&&mX z.f x.ea x.ea.length)):=ah (by rw[bU.out,decide_eq_true (show ne≤8 by omega),decide_eq_true Zn];simp);clear Zn h8;go_wp2_with fail;refine (C4.out _ _ H1.out).mono ?_;rintro e w2 ⟨J,rfl,hle,h2⟩;have H2:=ah h2;have iL:=ah hle;clear k3 k6 k11 k12 BO h2 hle C4 C3;by_cases ht0:te=0
    ·subst ht0
     have k3:=(ay H2.out.p1 3 _ rfl).1;have h3:Sat W w2 (sep (kn J) (sep (blk B (.cells z.cells.toArray 36 (0,0))) A)):=H2.out;have h4:=h3.Lu;obtain⟨mb,hmb⟩:=aC (w2.heap.size);obtain⟨w3,hw3⟩:=aC (w2.alloc (.map #[] 0));rw[←hmb,←hw3] at h4;obtain⟨w4,n',hup,-,h5⟩:=nD (P:=Tryz.prog) (T:=144) Tryz.underlying144 Tryz.underlying3 h4 z.f (.bool true);have ek:mY (fun _=>none) z.f (some (.bool true))=knF (Ua z.f x.ea 0):=by
      funext k;unfold mY knF Ua;by_cases hk:k=z.f
      ·subst hk;simp
      ·have e1:(k==z.f)=false:=by simpa using hk
       rw[if_neg hk,e1];simp
     rw[ek] at h5;have h6:=h5.alloc (.cells #[.map (some mb)] 144);obtain⟨KC,hKC⟩:=aC (w4.heap.size);obtain⟨w5,hw5⟩:=aC (w4.alloc (.cells #[.map (some mb)] 144));rw[←hKC,←hw5] at h6;have h7:Sat W w5 (sep (Qc KC mb (Ua z.f x.ea 0) n') (sep (kn J) (sep (blk B (.cells z.cells.toArray 36 (0,0))) A))):=by unfold Qc;rw[aj];exact h6
     have k14:=(ay (show Sat W w5 (sep (blk B (.cells z.cells.toArray 36 (0,0))) (sep (Qc KC mb (Ua z.f x.ea 0) n') (sep (kn J) A))) by simpa only[aA,au,aj] using h7) 14 _ rfl).1;have BO:w5.cell? ⟨B,14,none⟩=some (.slice z.ea.a ne z.ea.c):=by rw[XZ.out];exact k14
     have HC:=ah (LX KC mb z.f n' z.ea.a ne z.ea.c x.ea (by rw[XZ.out];exact (Qu.slice 2).mono iL.out UL.out.1) h7);have HW:=ah (aH hmb (aH hw3 (aH hKC hw5)));have HR3:Hid (rv=mX z.f x.ea x.ea.length):=ah (by rw[HR2.out];rfl);obtain⟨et,het⟩:=aC (mX z.f x.ea x.ea.length);rw[←het] at HC HR3;have adX:=hup;have k3a:=(ay h4.p2 3 _ rfl).1;rw[hmb,hw3] at adX;rw[hw3] at k3a;clear h3 h4 h5 h6 h7 hmb hw3 hKC hw5 ek k14 H2 H1 het hup;go_upto_region 4 with fail;rw[←HW.out.1,←HW.out.2.2.1,←HW.out.2.2.2];clear adX k3 k3a hqb h8z;go_wp2_with fail;refine HC.out.mono ?_;rintro e w6 ⟨rfl,h8⟩;have H8:=ah h8;clear h8 HC BO;go_wp2;rw[bK.out];exact⟨J,by (rw[HR3.out];cases et<;>rfl),iL.out,H8.out.p1.drop⟩
    ·have HF:Hid (rv=false):=ah (by rw[HR2.out,decide_eq_false ht0];rfl)
     have ht1:(te !=0)=true:=by simpa using ht0
     have ht2:(te==0)=false:=by simpa using ht0
     clear ht0;go_wp2;rw[bK.out];exact⟨J,by (rw[HF.out];try rfl),iL.out,H2.out.p1.drop⟩
end Go.Proofs.YthfmaclnccdcbaaGreatDoor
namespace PA
open Go Go.RowKit
def EO (x:Pa):Bool:=aP x.q 1 4095&&decide (x.q≠x.p)
def JY (n d:Int):Bool:=okR ⟨n,d⟩&&(decide (n≤d)&&decide (0<n))
def sG (x:Pa):Bool:=
 if x.k=0 then TN x
 else if x.k=3∨x.k=15 then gZ x.cl
 else if x.k=4 then aP x.u 0 66&&(decide (x.u≠6)&&(aP x.q 0 7&&aP x.m 1 1099511627776))
 else if x.k=5 then aP x.u 0 1
 else if x.k=6∨x.k=7 then aP x.u 0 255
 else if x.k=8 then aP x.u 0 255&&aP x.m 1 12
 else if x.k=9∨x.k=20 then jB x
 else if x.k=13 then aP x.u 0 2&&(aP x.q 0 1&&((decide (x.u=2)&&gZ x.cl)||(decide (x.u<2)&&decide (x.cl.length=0))))
 else if x.k=16 then EO x&&JY x.sn x.sd
 else if x.k=17 then EO x&&jB x
 else if x.k=18 then aP x.u 0 7
 else if x.k=19 then decide (kQ x.fx=0)
 else if x.k=21 then aP x.u 0 18&&aP x.m 0 1099511627776
 else true
end PA
namespace Go.Proofs.YthfmaclnccdcbaaGreatDoor
open Go.RowKit PA
set_option maxHeartbeats 32000000
theorem Qw {W w:World} {A:aB} (n d:Int) (hB:VB ⟨n,d⟩) (h:Sat W w A):
 Calls Tryz.prog 160 #[.agg #[.int .i64 n,.int .i64 d],.agg #[.int .i64 1,.int .i64 1]] w fun e w'=>∃c:Int,e=.returned (.int .i64 c)∧decide (c≤0)=decide (n≤d)∧Sat W w' A:=by
 have h1:=(h.alloc (.cells #[.int .i64 n,.int .i64 d] 26)).alloc (.cells #[.int .i64 1,.int .i64 1] 26);rw[World.size_alloc] at h1;obtain⟨B,hBb⟩:=aC (w.heap.size);obtain⟨w1,hw1⟩:=aC ((w.alloc (.cells #[.int .i64 n,.int .i64 d] 26)).alloc (.cells #[.int .i64 1,.int .i64 1] 26));rw[←hBb,←hw1] at h1;have HB:=ah (aH hBb hw1);have h2:=h1.drew;obtain⟨wd,hwd⟩:=aC (w1.drew);rw[←hwd] at h2;obtain⟨k0,k1,-,-⟩:=kX h2;obtain⟨j0,j1,-,-⟩:=kX h2.p1;have HF:=ah h2.drop.drop;have jY:=ah hwd;have e1:IntKind.i64.wrap (n*1)=n:=by rw[Int.mul_one];exact IntWalk.i64_in _ ⟨hB.n1,hB.n2⟩
 have e2:IntKind.i64.wrap (1*d)=d:=by rw[Int.one_mul];exact IntWalk.i64_in _ ⟨hB.d1,hB.d2⟩
 have e3:IntKind.i64.wrap n=n:=IntWalk.i64_in _ ⟨hB.n1,hB.n2⟩;have e4:IntKind.i64.wrap d=d:=IntWalk.i64_in _ ⟨hB.d1,hB.d2⟩;clear h h1 hBb hw1 h2 hwd hB;go_enter Tryz.func160,Tryz.ntmps160;go_upto_region 1 with fail;rw[←HB.out.1,←HB.out.2];refine aG rfl (fun _=>True) [(0,.p),(1,.t),(2,.p),(3,.t),(4,.p),(5,.p),(6,.t),(7,.p),(8,.t),(9,.p),(10,.p),(11,.p)] (by kernel_rfl) ?_;rw[←jY.out];have hS0:True:=trivial;refine bG ?_;refine dJ ?_;clear k0 k1 j0 j1
 try simp only[e1,e2,e3,e4]
 rcases Int.lt_trichotomy n d with hlt|rfl|hgt
 ·go_wp2
  go_ret;exact⟨-1,rfl,by first|(rw[show decide ((-1:Int)≤0)=true from rfl,decide_eq_true (by omega)];done)|(simp;omega),HF.out⟩
 ·go_wp2
  go_ret;exact⟨0,rfl,by simp,HF.out⟩
 ·have h3:¬n<d:=by omega
  go_wp2;go_ret;exact⟨1,rfl,by first|(rw[show decide ((1:Int)≤0)=false from rfl,decide_eq_false (by omega)];done)|(simp;omega),HF.out⟩
theorem Ut {W w:World} {A:aB} (n d:Int) (hB:VB ⟨n,d⟩) (h:Sat W w A):
 Calls Tryz.prog 117 #[.agg #[.int .i64 n,.int .i64 d],.agg #[.int .i64 1,.int .i64 1]] w fun e w'=>∃c r:Int,e=.returned (.tuple #[.int .i64 c,.int .i64 r])∧((r==0)&&decide (c≤0))=(okR ⟨n,d⟩&&decide (n≤d))∧Sat W w' A:=by
 have h1:=(h.alloc (.cells #[.int .i64 n,.int .i64 d] 26)).alloc (.cells #[.int .i64 1,.int .i64 1] 26);rw[World.size_alloc] at h1;obtain⟨B,hBb⟩:=aC (w.heap.size);obtain⟨w1,hw1⟩:=aC ((w.alloc (.cells #[.int .i64 n,.int .i64 d] 26)).alloc (.cells #[.int .i64 1,.int .i64 1] 26));rw[←hBb,←hw1] at h1;have HB:=ah (aH hBb hw1);obtain⟨k0,k1,-,-⟩:=kX h1;obtain⟨j0,j1,-,-⟩:=kX h1.p1;have hv:=h1.alloc (.cells #[.int .i64 n,.int .i64 d,.int .i64 1,.int .i64 1] 26);have hvs:=OB ⟨n,d⟩ ⟨1,1⟩ hB ⟨by decide,by decide,by decide,by decide⟩ _ hv;have hif:(if okR ⟨n,d⟩=true∧okR ⟨1,1⟩=true then (0:Int) else 1)=if okR ⟨n,d⟩=true then 0 else 1:=by
  have:okR ⟨1,1⟩=true:=uS 1 1 (by omega) (by omega) (by decide) (by decide);rw[this];simp
 rw[hif] at hvs;have HCI:=ah (fun w' (A':aB) (h':Sat W w' A')=>Qw n d hB h');obtain⟨ok,hok⟩:=aC (okR ⟨n,d⟩);rw[←hok] at hvs ⊢;have wF:=ah hvs;clear h h1 hBb hw1 hv hvs hif hB hok;go_enter Tryz.func117,Tryz.ntmps117;go_upto_region 1 with fail;rw[←HB.out.1,←HB.out.2];go_wp2_with fail;refine wF.out.mono ?_;rintro e w3 ⟨rfl,h3⟩;obtain⟨k0',k1',-,-⟩:=kX h3;obtain⟨j0',j1',-,-⟩:=kX h3.p1;have H3:=ah h3;clear k0 k1 j0 j1 h3 wF;cases ok with
 | false=>
  go_wp2;exact bodyPost_ret (v:=.tuple #[.int .i64 0,.int .i64 1]) (by simp[results,Tryz.results117,go_sem]) rfl ⟨0,1,rfl,rfl,H3.out.drop.drop⟩
 | true=>
  go_wp2_with fail;refine (HCI.out _ _ H3.out).mono ?_;rintro e w4 ⟨c,rfl,hc,h4⟩;have H4:=ah (aH hc h4);clear hc h4 H3 HCI k0' k1' j0' j1';go_wp2;exact bodyPost_ret (v:=.tuple #[.int .i64 c,.int .i64 0]) (by simp[results,Tryz.results117,go_sem]) rfl ⟨c,0,rfl,by simpa using H4.out.1,H4.out.2.drop.drop⟩
attribute [local go_sem ↓] aY bI aV
theorem uN {W w:World} {A:aB} (B:Nat) (z:Ac) (h:Sat W w (sep (blk B (.cells z.cells.toArray 36 (0,0))) A)):
 Calls Tryz.prog 115 #[.pointer (some ⟨B,0,none⟩)] w fun e w'=>e=.returned (.bool (aP z.u z.d 131072))∧w=w':=by
 have k7:=(ay h 7 _ rfl).1;have k1:=(ay h 1 _ rfl).1;have C:=ah (fun w'=>bJ z.u z.d 131072 w');clear h;go_enter Tryz.func115,Tryz.ntmps115;go_wp2_with fail;refine (C.out _).mono ?_;rintro e w2 ⟨rfl,rfl⟩;go_wp2;go_ret;exact⟨rfl,rfl⟩
theorem wR {W w:World} {A:aB} (B:Nat) (z:Ac) (h:Sat W w (sep (blk B (.cells z.cells.toArray 36 (0,0))) A)):
 Calls Tryz.prog 114 #[.pointer (some ⟨B,0,none⟩)] w fun e w'=>e=.returned (.bool (aP z.q 1 4095&&decide (z.q≠z.p)))∧w=w':=by
 have k6:=(ay h 6 _ rfl).1;have k5:=(ay h 5 _ rfl).1;obtain⟨b1,hb1⟩:=aC (aP z.q 1 4095);have C:Hid (∀w',Calls Tryz.prog 60 #[.int .i64 z.q,.int .i64 1,.int .i64 4095] w' fun e w''=>e=.returned (.bool b1)∧w'=w''):=ah fun w'=>by rw[hb1];exact bJ _ _ _ w'
 rw[←hb1];obtain⟨b2,hb2⟩:=aC ((z.q !=z.p));have e2:decide (z.q≠z.p)=b2:=by
  rw[hb2];by_cases h:z.q=z.p
  ·rw[h];simp
  ·rw[decide_eq_true h];simpa using h
 have hb2':(z.q !=z.p)=b2:=hb2.symm;rw[e2];clear h hb1 hb2 e2;go_enter Tryz.func114,Tryz.ntmps114;go_wp2_with fail;refine (C.out _).mono ?_;rintro e w2 ⟨rfl,rfl⟩;cases b1 with
 | false=>
  go_wp2;go_ret;exact⟨rfl,rfl⟩
 | true=>
  cases b2 with
  | false=>
   go_wp2;go_ret;exact⟨rfl,rfl⟩
  | true=>
   go_wp2;go_ret;exact⟨rfl,rfl⟩
theorem sF {W w:World} {A:aB} {I:Mem} (B:Nat) (z:Ac) (l:List Cl) (hv:(lM.slice 5).rel I [z.cl.v] l) (hK:∀c∈l,KQ c.body) (h:Sat W w (sep (kn I) (sep (blk B (.cells z.cells.toArray 36 (0,0))) A))):
 Calls Tryz.prog 112 #[.pointer (some ⟨B,0,none⟩)] w fun e w'=>e=.returned (.bool (gZ l))∧Sat W w' (sep (kn I) (sep (blk B (.cells z.cells.toArray 36 (0,0))) A)):=by
 have hn:=(aJ hv).1;have hn63:=(aJ hv).2.2;have k13:=(ay h.p1 13 _ rfl).1;have hcv:=nI z.cl.a z.cl.n z.cl.c l hv hK h;obtain⟨nc,hnc⟩:=aC (z.cl.n);obtain⟨ce,hce⟩:=aC (qQ l);have abT:w.cell? ⟨B,13,none⟩=some (.slice z.cl.a nc z.cl.c):=by rw[hnc];exact k13
 rw[←hce,←hnc] at hcv;rw[←hnc] at hn hn63;have Dk:=ah hcv;have H:=ah h;obtain⟨rv,dQ⟩:=aC (gZ l);have bU:Hid (rv=(decide (0<nc)&&decide (ce=0))):=ah (by rw[dQ,hn,hce];rfl);rw[←dQ];clear hv h hn k13 hcv hnc hce dQ;by_cases n0:0<nc
 ·have n0z:(0:Int)<(nc:Int):=by omega
  have HR2:Hid (rv=decide (ce=0)):=ah (by rw[bU.out,decide_eq_true n0];rfl);clear n0;go_enter Tryz.func112,Tryz.ntmps112;go_wp2_with fail;refine Dk.out.mono ?_;rintro e w2 ⟨rfl,h2⟩;have H2:=ah h2;clear h2 H Dk abT;by_cases c0:ce=0
  ·subst c0
   go_wp2;go_ret;exact⟨by (rw[HR2.out];try rfl),H2.out⟩
  ·have c1:(ce==0)=false:=by simpa using c0
   have HF:Hid (rv=false):=ah (by rw[HR2.out,decide_eq_false c0]);clear c0;go_wp2;go_ret;exact⟨by (rw[HF.out];try rfl),H2.out⟩
 ·have n0z:¬(0:Int)<(nc:Int):=by omega
  have HF:Hid (rv=false):=ah (by rw[bU.out,decide_eq_false n0];rfl);clear n0;go_enter Tryz.func112,Tryz.ntmps112;go_wp2;go_ret;exact⟨by (rw[HF.out];try rfl),H.out⟩
set_option maxRecDepth 100000 in
theorem Gw {W w:World} {A:aB} {I:Mem} (z:Ac) (x:Pa) (hA:lT I z x) (hz:YL x) (hk0:0≤z.k) (hk1:z.k≤21) (h:Sat W w (sep (kn I) A)):
 Calls Tryz.prog 63 #[.agg z.cells.toArray] w fun e w'=>∃J,e=.returned (.bool (sG x))∧Mem.le I J∧Sat W w' (sep (kn J) A):=by
 have h1:=(h.alloc (.cells z.cells.toArray 36)).p1;obtain⟨B,hB⟩:=aC (w.heap.size);obtain⟨w1,hw1⟩:=aC (w.alloc (.cells z.cells.toArray 36));rw[←hB,←hw1] at h1;have HB:=ah (aH hB hw1);obtain⟨rv,dQ⟩:=aC (sG x);obtain⟨Po,dS⟩:∃P:Ending→World→Prop,P=fun e w'=>∃J,e=.returned (.bool rv)∧Mem.le I J∧Sat W w' (sep (kn J) A):=⟨_,rfl⟩
 rw[←dQ,←dS];have bK:=ah dS;have hmf:∀(fn:Fn) (first cap:Array Value) (w:World),(Instr.makeFunc fn first cap).run Tryz.prog w=.ok (.func fn first cap) w:=fun _ _ _ _=>rfl
 have HX:=ah (aH hA hz);have H1:=ah h1;have jW:rv=sG x:=dQ;unfold sG at jW;rw[←hA.k,←hA.u,←hA.q,←hA.m] at jW;have bU:=ah jW;have kk:=(ay h1.p1 0 _ rfl).1;have k5:=(ay h1.p1 5 _ rfl).1;have k6:=(ay h1.p1 6 _ rfl).1;have k7:=(ay h1.p1 7 _ rfl).1;have k8:=(ay h1.p1 8 _ rfl).1;obtain⟨kz,hkz⟩:=aC (z.k);rw[←hkz] at hk0 hk1 bU;have k0:w1.cell? ⟨B,0,none⟩=some (.int .i64 kz):=by rw[hkz];exact kk
 have HKZ:=ah hkz;clear hA hz h h1 hB hw1 dQ dS jW kk hkz;obtain rfl|rfl|rfl|rfl|rfl|rfl|rfl|rfl|rfl|rfl|rfl|rfl|rfl|rfl|rfl|rfl|rfl|rfl|rfl|rfl|rfl|rfl:kz=0∨kz=1∨kz=2∨kz=3∨kz=4∨kz=5∨kz=6∨kz=7∨kz=8∨kz=9∨kz=10∨kz=11∨kz=12∨kz=13∨kz=14∨kz=15∨kz=16∨kz=17∨kz=18∨kz=19∨kz=20∨kz=21:=by omega
 ·as_aux_lemma=>
  have QV:=ah (Jv z x HX.out.1 HX.out.2 H1.out);have hld:=iq H1.out.p1;obtain⟨bl,hbl⟩:=aC (TN x);have HF:Hid (rv=bl):=ah (by rw[bU.out,hbl];rfl);rw[←hbl] at QV;clear hbl;go_enter Tryz.func63,Tryz.ntmps63;go_upto_region 1 with fail;rw[←HB.out.1,←HB.out.2];go_wp2_with fail;refine QV.out.mono ?_;rintro e w2 ⟨J,rfl,hle,h2⟩;have H2:=ah h2;have HL:=ah hle;clear h2 hle QV H1 k0 k5 k6 k7 k8 hld;go_wp2;rw[bK.out];exact⟨J,by (rw[HF.out];try rfl),HL.out,H2.out.p1.drop⟩
 ·as_aux_lemma=>
  have HF:Hid (rv=true):=ah (by rw[bU.out];rfl);go_enter Tryz.func63,Tryz.ntmps63;go_upto_region 1 with fail;rw[←HB.out.1,←HB.out.2];go_wp2;rw[bK.out];exact⟨I,by (rw[HF.out];try rfl),bW _,H1.out.p1.drop⟩
 ·as_aux_lemma=>
  have HF:Hid (rv=true):=ah (by rw[bU.out];rfl);go_enter Tryz.func63,Tryz.ntmps63;go_upto_region 1 with fail;rw[←HB.out.1,←HB.out.2];go_wp2;rw[bK.out];exact⟨I,by (rw[HF.out];try rfl),bW _,H1.out.p1.drop⟩
 ·as_aux_lemma=>
  have U6:=ah (sF B z x.cl HX.out.1.cl HX.out.2.cl H1.out);obtain⟨bl,hbl⟩:=aC (gZ x.cl);have HF:Hid (rv=bl):=ah (by rw[bU.out,hbl];rfl);rw[←hbl] at U6;clear hbl;go_enter Tryz.func63,Tryz.ntmps63;go_upto_region 1 with fail;rw[←HB.out.1,←HB.out.2];go_wp2_with fail;refine U6.out.mono ?_;rintro e w2 ⟨rfl,h2⟩;have H2:=ah h2;clear h2 U6 H1 k0 k5 k6 k7 k8;go_wp2;rw[bK.out];exact⟨I,by (rw[HF.out];try rfl),bW _,H2.out.p1.drop⟩
 ·as_aux_lemma=>
  obtain⟨b0,hb0⟩:=aC (aP z.u 0 66);have C0:Hid (∀w',Calls Tryz.prog 60 #[.int .i64 z.u,.int .i64 0,.int .i64 66] w' fun e w''=>e=.returned (.bool b0)∧w'=w''):=ah fun w'=>by rw[hb0];exact bJ _ _ _ w'
  obtain⟨b1,hb1⟩:=aC ((z.u !=6));have g1:decide (z.u≠6)=b1:=by
   rw[hb1];by_cases h:z.u=6
   ·rw[h];simp
   ·rw[decide_eq_true h];simpa using h
  have hb1':(z.u !=6)=b1:=hb1.symm;obtain⟨b2,hb2⟩:=aC (aP z.q 0 7);have C2:Hid (∀w',Calls Tryz.prog 60 #[.int .i64 z.q,.int .i64 0,.int .i64 7] w' fun e w''=>e=.returned (.bool b2)∧w'=w''):=ah fun w'=>by rw[hb2];exact bJ _ _ _ w'
  obtain⟨b3,hb3⟩:=aC (aP z.m 1 1099511627776);have C3:Hid (∀w',Calls Tryz.prog 60 #[.int .i64 z.m,.int .i64 1,.int .i64 1099511627776] w' fun e w''=>e=.returned (.bool b3)∧w'=w''):=ah fun w'=>by rw[hb3];exact bJ _ _ _ w'
  have HR:Hid (rv=(b0&&(b1&&(b2&&b3)))):=ah (by
   have h0:rv=(aP z.u 0 66&&(decide (z.u≠6)&&(aP z.q 0 7&&aP z.m 1 1099511627776))):=by rw[bU.out];rfl
   rw[h0,←hb0,g1,←hb2,←hb3])
  clear hb0 hb1 hb2 hb3 g1;go_enter Tryz.func63,Tryz.ntmps63;go_upto_region 1 with fail;rw[←HB.out.1,←HB.out.2];go_wp2_with fail;refine (C0.out _).mono ?_;rintro e w2 ⟨rfl,rfl⟩;cases b0 with
  | false=>
   have HF:Hid (rv=false):=ah (by rw[HR.out];rfl);go_wp2;rw[bK.out];exact⟨I,by (rw[HF.out];try rfl),bW _,H1.out.p1.drop⟩
  | true=>
   cases b1 with
   | false=>
    have HF:Hid (rv=false):=ah (by rw[HR.out];rfl);go_wp2;rw[bK.out];exact⟨I,by (rw[HF.out];try rfl),bW _,H1.out.p1.drop⟩
   | true=>
    go_wp2_with fail;refine (C2.out _).mono ?_;rintro e w2 ⟨rfl,rfl⟩;cases b2 with
    | false=>
     have HF:Hid (rv=false):=ah (by rw[HR.out];rfl);go_wp2;rw[bK.out];exact⟨I,by (rw[HF.out];try rfl),bW _,H1.out.p1.drop⟩
    | true=>
     go_wp2_with fail;refine (C3.out _).mono ?_;rintro e w2 ⟨rfl,rfl⟩;have HF:Hid (rv=b3):=ah (by rw[HR.out];try (cases b3<;>rfl));go_wp2;rw[bK.out];exact⟨I,by (rw[HF.out];try rfl),bW _,H1.out.p1.drop⟩
 ·as_aux_lemma=>
  obtain⟨b0,hb0⟩:=aC (aP z.u 0 1);have C0:Hid (∀w',Calls Tryz.prog 60 #[.int .i64 z.u,.int .i64 0,.int .i64 1] w' fun e w''=>e=.returned (.bool b0)∧w'=w''):=ah fun w'=>by rw[hb0];exact bJ _ _ _ w'
  have HR:Hid (rv=(b0)):=ah (by
   have h0:rv=(aP z.u 0 1):=by rw[bU.out];rfl
   rw[h0,←hb0])
  clear hb0;go_enter Tryz.func63,Tryz.ntmps63;go_upto_region 1 with fail;rw[←HB.out.1,←HB.out.2];go_wp2_with fail;refine (C0.out _).mono ?_;rintro e w2 ⟨rfl,rfl⟩;have HF:Hid (rv=b0):=ah (by rw[HR.out];try (cases b0<;>rfl));go_wp2;rw[bK.out];exact⟨I,by (rw[HF.out];try rfl),bW _,H1.out.p1.drop⟩
 ·as_aux_lemma=>
  obtain⟨b0,hb0⟩:=aC (aP z.u 0 255);have C0:Hid (∀w',Calls Tryz.prog 60 #[.int .i64 z.u,.int .i64 0,.int .i64 255] w' fun e w''=>e=.returned (.bool b0)∧w'=w''):=ah fun w'=>by rw[hb0];exact bJ _ _ _ w'
  have HR:Hid (rv=(b0)):=ah (by
   have h0:rv=(aP z.u 0 255):=by rw[bU.out];rfl
   rw[h0,←hb0])
  clear hb0;go_enter Tryz.func63,Tryz.ntmps63;go_upto_region 1 with fail;rw[←HB.out.1,←HB.out.2];go_wp2_with fail;refine (C0.out _).mono ?_;rintro e w2 ⟨rfl,rfl⟩;have HF:Hid (rv=b0):=ah (by rw[HR.out];try (cases b0<;>rfl));go_wp2;rw[bK.out];exact⟨I,by (rw[HF.out];try rfl),bW _,H1.out.p1.drop⟩
 ·as_aux_lemma=>
  obtain⟨b0,hb0⟩:=aC (aP z.u 0 255);have C0:Hid (∀w',Calls Tryz.prog 60 #[.int .i64 z.u,.int .i64 0,.int .i64 255] w' fun e w''=>e=.returned (.bool b0)∧w'=w''):=ah fun w'=>by rw[hb0];exact bJ _ _ _ w'
  have HR:Hid (rv=(b0)):=ah (by
   have h0:rv=(aP z.u 0 255):=by rw[bU.out];rfl
   rw[h0,←hb0])
  clear hb0;go_enter Tryz.func63,Tryz.ntmps63;go_upto_region 1 with fail;rw[←HB.out.1,←HB.out.2];go_wp2_with fail;refine (C0.out _).mono ?_;rintro e w2 ⟨rfl,rfl⟩;have HF:Hid (rv=b0):=ah (by rw[HR.out];try (cases b0<;>rfl));go_wp2;rw[bK.out];exact⟨I,by (rw[HF.out];try rfl),bW _,H1.out.p1.drop⟩
 ·as_aux_lemma=>
  obtain⟨b0,hb0⟩:=aC (aP z.u 0 255);have C0:Hid (∀w',Calls Tryz.prog 60 #[.int .i64 z.u,.int .i64 0,.int .i64 255] w' fun e w''=>e=.returned (.bool b0)∧w'=w''):=ah fun w'=>by rw[hb0];exact bJ _ _ _ w'
  obtain⟨b1,hb1⟩:=aC (aP z.m 1 12);have C1:Hid (∀w',Calls Tryz.prog 60 #[.int .i64 z.m,.int .i64 1,.int .i64 12] w' fun e w''=>e=.returned (.bool b1)∧w'=w''):=ah fun w'=>by rw[hb1];exact bJ _ _ _ w'
  have HR:Hid (rv=(b0&&b1)):=ah (by
   have h0:rv=(aP z.u 0 255&&aP z.m 1 12):=by rw[bU.out];rfl
   rw[h0,←hb0,←hb1])
  clear hb0 hb1;go_enter Tryz.func63,Tryz.ntmps63;go_upto_region 1 with fail;rw[←HB.out.1,←HB.out.2];go_wp2_with fail;refine (C0.out _).mono ?_;rintro e w2 ⟨rfl,rfl⟩;cases b0 with
  | false=>
   have HF:Hid (rv=false):=ah (by rw[HR.out];rfl);go_wp2;rw[bK.out];exact⟨I,by (rw[HF.out];try rfl),bW _,H1.out.p1.drop⟩
  | true=>
   go_wp2_with fail;refine (C1.out _).mono ?_;rintro e w2 ⟨rfl,rfl⟩;have HF:Hid (rv=b1):=ah (by rw[HR.out];try (cases b1<;>rfl));go_wp2;rw[bK.out];exact⟨I,by (rw[HF.out];try rfl),bW _,H1.out.p1.drop⟩
 ·as_aux_lemma=>
  have HLA:=ah (uN B z H1.out.p1);obtain⟨bl,hbl⟩:=aC (aP z.u z.d 131072);have HF:Hid (rv=bl):=ah (by
   have h0:rv=jB x:=by rw[bU.out];rfl
   rw[h0,hbl];unfold jB;rw[HX.out.1.u,HX.out.1.d])
  rw[←hbl] at HLA;clear hbl;go_enter Tryz.func63,Tryz.ntmps63;go_upto_region 1 with fail;rw[←HB.out.1,←HB.out.2];go_wp2_with fail;refine HLA.out.mono ?_;rintro e w2 ⟨rfl,rfl⟩;go_wp2;rw[bK.out];exact⟨I,by (rw[HF.out];try rfl),bW _,H1.out.p1.drop⟩
 ·as_aux_lemma=>
  have HF:Hid (rv=true):=ah (by rw[bU.out];rfl);go_enter Tryz.func63,Tryz.ntmps63;go_upto_region 1 with fail;rw[←HB.out.1,←HB.out.2];go_wp2;rw[bK.out];exact⟨I,by (rw[HF.out];try rfl),bW _,H1.out.p1.drop⟩
 ·as_aux_lemma=>
  have HF:Hid (rv=true):=ah (by rw[bU.out];rfl);go_enter Tryz.func63,Tryz.ntmps63;go_upto_region 1 with fail;rw[←HB.out.1,←HB.out.2];go_wp2;rw[bK.out];exact⟨I,by (rw[HF.out];try rfl),bW _,H1.out.p1.drop⟩
 ·as_aux_lemma=>
  have HF:Hid (rv=true):=ah (by rw[bU.out];rfl);go_enter Tryz.func63,Tryz.ntmps63;go_upto_region 1 with fail;rw[←HB.out.1,←HB.out.2];go_wp2;rw[bK.out];exact⟨I,by (rw[HF.out];try rfl),bW _,H1.out.p1.drop⟩
 ·as_aux_lemma=>
  have U6:=ah (sF B z x.cl HX.out.1.cl HX.out.2.cl H1.out);obtain⟨bl,hbl⟩:=aC (gZ x.cl);obtain⟨b0,hb0⟩:=aC (aP z.u 0 2);obtain⟨b1,hb1⟩:=aC (aP z.q 0 1);have C0:Hid (∀w',Calls Tryz.prog 60 #[.int .i64 z.u,.int .i64 0,.int .i64 2] w' fun e w''=>e=.returned (.bool b0)∧w'=w''):=ah fun w'=>by rw[hb0];exact bJ _ _ _ w'
  have C1:Hid (∀w',Calls Tryz.prog 60 #[.int .i64 z.q,.int .i64 0,.int .i64 1] w' fun e w''=>e=.returned (.bool b1)∧w'=w''):=ah fun w'=>by rw[hb1];exact bJ _ _ _ w'
  have k13:=(ay H1.out.p1 13 _ rfl).1;obtain⟨nc,hnc⟩:=aC (z.cl.n);have abT:w1.cell? ⟨B,13,none⟩=some (.slice z.cl.a nc z.cl.c):=by rw[hnc];exact k13
  have hn63:(nc:Int)≤9223372036854775807:=by rw[hnc];exact (aJ HX.out.1.cl).2.2
  have HR:Hid (rv=(b0&&(b1&&((decide (z.u=2)&&bl)||(decide (z.u<2)&&decide (nc=0)))))):=ah (by
   have h0:rv=(aP z.u 0 2&&(aP z.q 0 1&&((decide (z.u=2)&&gZ x.cl)||(decide (z.u<2)&&decide (x.cl.length=0))))):=by rw[bU.out];rfl
   rw[h0,hb0,hb1,hbl,hnc,(aJ HX.out.1.cl).1])
  rw[←hbl] at U6;clear hbl hb0 hb1 hnc k13;go_enter Tryz.func63,Tryz.ntmps63;go_upto_region 1 with fail;rw[←HB.out.1,←HB.out.2];go_wp2_with fail;refine (C0.out _).mono ?_;rintro e w2 ⟨rfl,rfl⟩;cases b0 with
  | false=>
   have HF:Hid (rv=false):=ah (by rw[HR.out];rfl);go_wp2;rw[bK.out];exact⟨I,by (rw[HF.out];try rfl),bW _,H1.out.p1.drop⟩
  | true=>
   go_wp2_with fail;refine (C1.out _).mono ?_;rintro e w2 ⟨rfl,rfl⟩;cases b1 with
   | false=>
    have HF:Hid (rv=false):=ah (by rw[HR.out];rfl);go_wp2;rw[bK.out];exact⟨I,by (rw[HF.out];try rfl),bW _,H1.out.p1.drop⟩
   | true=>
    by_cases u2:z.u=2
    ·have u2b:(z.u==2)=true:=by simpa using u2
     have u2l:¬z.u<2:=by omega
     have HR2:Hid (rv=bl):=ah (by rw[HR.out,decide_eq_true u2,decide_eq_false u2l];cases bl<;>rfl);clear u2;go_wp2_with fail;refine U6.out.mono ?_;rintro e w2 ⟨rfl,h2⟩;have H2:=ah h2;clear h2 U6 H1 k0 k5 k6 k7 k8 abT;have k7:=(ay H2.out.p1 7 _ rfl).1;cases bl with
     | false=>
      have HF:Hid (rv=false):=ah HR2.out;go_wp2;rw[bK.out];exact⟨I,by (rw[HF.out];try rfl),bW _,H2.out.p1.drop⟩
     | true=>
      have HF:Hid (rv=true):=ah HR2.out;go_wp2;rw[bK.out];exact⟨I,by (rw[HF.out];try rfl),bW _,H2.out.p1.drop⟩
    ·have u2b:(z.u==2)=false:=by simpa using u2
     by_cases ul:z.u<2
     ·by_cases n0:nc=0
      ·subst n0
       have HF:Hid (rv=true):=ah (by rw[HR.out,decide_eq_true ul];cases decide (z.u=2)<;>cases bl<;>rfl);clear u2;go_wp2;rw[bK.out];exact⟨I,by (rw[HF.out];try rfl),bW _,H1.out.p1.drop⟩
      ·have n0b:((nc:Int)==0)=false:=by simp;omega
       have HF:Hid (rv=false):=ah (by rw[HR.out,decide_eq_false u2,decide_eq_false n0];simp);clear u2 n0;go_wp2;rw[bK.out];exact⟨I,by (rw[HF.out];try rfl),bW _,H1.out.p1.drop⟩
     ·have HF:Hid (rv=false):=ah (by rw[HR.out,decide_eq_false u2,decide_eq_false ul];rfl)
      clear u2;go_wp2;rw[bK.out];exact⟨I,by (rw[HF.out];try rfl),bW _,H1.out.p1.drop⟩
 ·as_aux_lemma=>
  have HF:Hid (rv=true):=ah (by rw[bU.out];rfl);go_enter Tryz.func63,Tryz.ntmps63;go_upto_region 1 with fail;rw[←HB.out.1,←HB.out.2];go_wp2;rw[bK.out];exact⟨I,by (rw[HF.out];try rfl),bW _,H1.out.p1.drop⟩
 ·as_aux_lemma=>
  have U6:=ah (sF B z x.cl HX.out.1.cl HX.out.2.cl H1.out);obtain⟨bl,hbl⟩:=aC (gZ x.cl);have HF:Hid (rv=bl):=ah (by rw[bU.out,hbl];rfl);rw[←hbl] at U6;clear hbl;go_enter Tryz.func63,Tryz.ntmps63;go_upto_region 1 with fail;rw[←HB.out.1,←HB.out.2];go_wp2_with fail;refine U6.out.mono ?_;rintro e w2 ⟨rfl,h2⟩;have H2:=ah h2;clear h2 U6 H1 k0 k5 k6 k7 k8;go_wp2;rw[bK.out];exact⟨I,by (rw[HF.out];try rfl),bW _,H2.out.p1.drop⟩
 ·as_aux_lemma=>
  have OL:=ah (fun w' A' (h':Sat W w' (sep (blk B (.cells z.cells.toArray 36 (0,0))) A'))=>wR B z h');have k9:=(ay H1.out.p1 9 _ rfl).1;have k10:=(ay H1.out.p1 10 _ rfl).1;have HSH:=ah (Ut z.sn z.sd (by rw[HX.out.1.sn,HX.out.1.sd];exact HX.out.2.sh) H1.out.p1);obtain⟨bp,hbp⟩:=aC ((aP z.q 1 4095&&decide (z.q≠z.p)));have HR:Hid (rv=(bp&&((okR ⟨z.sn,z.sd⟩&&decide (z.sn≤z.sd))&&decide (0<z.sn)))):=ah (by
   have h0:rv=(EO x&&JY x.sn x.sd):=by rw[bU.out];rfl
   rw[h0,hbp];unfold JY EO;rw[HX.out.1.q,HX.out.1.p,HX.out.1.sn,HX.out.1.sd];simp only[Bool.and_assoc])
  rw[←hbp] at OL;clear hbp;go_enter Tryz.func63,Tryz.ntmps63;go_upto_region 1 with fail;rw[←HB.out.1,←HB.out.2];go_wp2_with fail;refine HSH.out.mono ?_;rintro e w2 ⟨c,r,rfl,hcr,h2⟩;have H2:=ah h2;have HC:=ah hcr;clear h2 hcr HSH H1 k0 k5 k6 k7 k8 k9 k10;have k9:=(ay H2.out 9 _ rfl).1;have HP2:=ah (OL.out w2 _ H2.out);clear OL;go_wp2_with fail;refine HP2.out.mono ?_;rintro e w3 ⟨rfl,rfl⟩;cases bp with
  | false=>
   have HF:Hid (rv=false):=ah (by rw[HR.out];rfl);go_wp2;rw[bK.out];exact⟨I,by (rw[HF.out];try rfl),bW _,H2.out.drop⟩
  | true=>
   obtain⟨r0,hr0⟩:=aC ((r==0));have ajn:(r==0)=r0:=hr0.symm;have HC2:Hid ((r0&&decide (c≤0))=(okR ⟨z.sn,z.sd⟩&&decide (z.sn≤z.sd))):=ah (by rw[hr0];exact HC.out);clear hr0;cases r0 with
   | false=>
    have HF:Hid (rv=false):=ah (by rw[HR.out,←HC2.out];rfl);go_wp2;rw[bK.out];exact⟨I,by (rw[HF.out];try rfl),bW _,H2.out.drop⟩
   | true=>
    by_cases hc0:c≤0
    ·by_cases hn0:0<z.sn
     ·have HF:Hid (rv=true):=ah (by rw[HR.out,←HC2.out,decide_eq_true hc0,decide_eq_true hn0];rfl)
      go_wp2;rw[bK.out];exact⟨I,by (rw[HF.out];first|done|(simp;done)|(simp;omega);try rfl),bW _,H2.out.drop⟩
     ·have HF:Hid (rv=false):=ah (by rw[HR.out,decide_eq_false hn0];simp)
      go_wp2;rw[bK.out];exact⟨I,by (rw[HF.out];first|done|(simp;done)|(simp;omega);try rfl),bW _,H2.out.drop⟩
    ·have HF:Hid (rv=false):=ah (by rw[HR.out,←HC2.out,decide_eq_false hc0];rfl)
     go_wp2;rw[bK.out];exact⟨I,by (rw[HF.out];first|done|(simp;done)|(simp;omega);try rfl),bW _,H2.out.drop⟩
 ·as_aux_lemma=>
  have OL:=ah (wR B z H1.out.p1);have HLA:=ah (uN B z H1.out.p1);obtain⟨bp,hbp⟩:=aC ((aP z.q 1 4095&&decide (z.q≠z.p)));obtain⟨bl,hbl⟩:=aC (aP z.u z.d 131072);have HR:Hid (rv=(bp&&bl)):=ah (by
   have h0:rv=(EO x&&jB x):=by rw[bU.out];rfl
   rw[h0,hbp,hbl];unfold jB EO;rw[HX.out.1.u,HX.out.1.d,HX.out.1.q,HX.out.1.p])
  rw[←hbl] at HLA;rw[←hbp] at OL;clear hbl hbp;go_enter Tryz.func63,Tryz.ntmps63;go_upto_region 1 with fail;rw[←HB.out.1,←HB.out.2];go_wp2_with fail;refine OL.out.mono ?_;rintro e w2 ⟨rfl,rfl⟩;cases bp with
  | false=>
   have HF:Hid (rv=false):=ah (by rw[HR.out];rfl);go_wp2;rw[bK.out];exact⟨I,by (rw[HF.out];try rfl),bW _,H1.out.p1.drop⟩
  | true=>
   go_wp2_with fail;refine HLA.out.mono ?_;rintro e w2 ⟨rfl,rfl⟩;have HF:Hid (rv=bl):=ah (by rw[HR.out];cases bl<;>rfl);go_wp2;rw[bK.out];exact⟨I,by (rw[HF.out];try rfl),bW _,H1.out.p1.drop⟩
 ·as_aux_lemma=>
  obtain⟨b0,hb0⟩:=aC (aP z.u 0 7);have C0:Hid (∀w',Calls Tryz.prog 60 #[.int .i64 z.u,.int .i64 0,.int .i64 7] w' fun e w''=>e=.returned (.bool b0)∧w'=w''):=ah fun w'=>by rw[hb0];exact bJ _ _ _ w'
  have HR:Hid (rv=(b0)):=ah (by
   have h0:rv=(aP z.u 0 7):=by rw[bU.out];rfl
   rw[h0,←hb0])
  clear hb0;go_enter Tryz.func63,Tryz.ntmps63;go_upto_region 1 with fail;rw[←HB.out.1,←HB.out.2];go_wp2_with fail;refine (C0.out _).mono ?_;rintro e w2 ⟨rfl,rfl⟩;have HF:Hid (rv=b0):=ah (by rw[HR.out];try (cases b0<;>rfl));go_wp2;rw[bK.out];exact⟨I,by (rw[HF.out];try rfl),bW _,H1.out.p1.drop⟩
 ·as_aux_lemma=>
  have k15:=(ay H1.out.p1 15 _ rfl).1;have k16:=(ay H1.out.p1 16 _ rfl).1;have k17:=(ay H1.out.p1 17 _ rfl).1;have k18:=(ay H1.out.p1 18 _ rfl).1;have wK:=ah (mF x.fx z.fo z.fn z.fi.a z.fi.n z.fi.c z.fk.a z.fk.n z.fk.c HX.out.1.fx HX.out.2.fx.1 HX.out.2.fx.2 H1.out);obtain⟨fe,hfe⟩:=aC (kQ x.fx);have HR:Hid (rv=decide (fe=0)):=ah (by rw[bU.out,hfe];rfl);rw[←hfe] at wK;clear hfe;go_enter Tryz.func63,Tryz.ntmps63;go_upto_region 1 with fail;rw[←HB.out.1,←HB.out.2];go_wp2_with fail;refine wK.out.mono ?_;rintro e w2 ⟨rfl,h2⟩;have H2:=ah h2;clear h2 wK H1 k0 k5 k6 k7 k8 k15 k16 k17 k18;obtain⟨fb,hfb⟩:=aC ((fe==0));have aja:(fe==0)=fb:=hfb.symm;have HF:Hid (rv=fb):=ah (by
   rw[HR.out,hfb];by_cases h:fe=0
   ·rw[h];simp
   ·rw[decide_eq_false h];simpa using h)
  clear hfb;go_wp2;rw[bK.out];exact⟨I,by (rw[HF.out];try rfl),bW _,H2.out.p1.drop⟩
 ·as_aux_lemma=>
  have HLA:=ah (uN B z H1.out.p1);obtain⟨bl,hbl⟩:=aC (aP z.u z.d 131072);have HF:Hid (rv=bl):=ah (by
   have h0:rv=jB x:=by rw[bU.out];rfl
   rw[h0,hbl];unfold jB;rw[HX.out.1.u,HX.out.1.d])
  rw[←hbl] at HLA;clear hbl;go_enter Tryz.func63,Tryz.ntmps63;go_upto_region 1 with fail;rw[←HB.out.1,←HB.out.2];go_wp2_with fail;refine HLA.out.mono ?_;rintro e w2 ⟨rfl,rfl⟩;go_wp2;rw[bK.out];exact⟨I,by (rw[HF.out];try rfl),bW _,H1.out.p1.drop⟩
 ·as_aux_lemma=>
  obtain⟨b0,hb0⟩:=aC (aP z.u 0 18);have C0:Hid (∀w',Calls Tryz.prog 60 #[.int .i64 z.u,.int .i64 0,.int .i64 18] w' fun e w''=>e=.returned (.bool b0)∧w'=w''):=ah fun w'=>by rw[hb0];exact bJ _ _ _ w'
  obtain⟨b1,hb1⟩:=aC (aP z.m 0 1099511627776);have C1:Hid (∀w',Calls Tryz.prog 60 #[.int .i64 z.m,.int .i64 0,.int .i64 1099511627776] w' fun e w''=>e=.returned (.bool b1)∧w'=w''):=ah fun w'=>by rw[hb1];exact bJ _ _ _ w'
  have HR:Hid (rv=(b0&&b1)):=ah (by
   have h0:rv=(aP z.u 0 18&&aP z.m 0 1099511627776):=by rw[bU.out];rfl
   rw[h0,←hb0,←hb1])
  clear hb0 hb1;go_enter Tryz.func63,Tryz.ntmps63;go_upto_region 1 with fail;rw[←HB.out.1,←HB.out.2];go_wp2_with fail;refine (C0.out _).mono ?_;rintro e w2 ⟨rfl,rfl⟩;cases b0 with
  | false=>
   have HF:Hid (rv=false):=ah (by rw[HR.out];rfl);go_wp2;rw[bK.out];exact⟨I,by (rw[HF.out];try rfl),bW _,H1.out.p1.drop⟩
  | true=>
   go_wp2_with fail;refine (C1.out _).mono ?_;rintro e w2 ⟨rfl,rfl⟩;have HF:Hid (rv=b1):=ah (by rw[HR.out];try (cases b1<;>rfl));go_wp2;rw[bK.out];exact⟨I,by (rw[HF.out];try rfl),bW _,H1.out.p1.drop⟩
end Go.Proofs.YthfmaclnccdcbaaGreatDoor
namespace PA
open Go Go.RowKit
def bB (z:Ac):Nat→Bool
 | 0=>z.f !=0
 | 1=>z.o !=0
 | 2=>z.p !=0
 | 3=>z.q !=0
 | 4=>z.u !=0
 | 5=>z.m !=0
 | 6=>(!(z.sn==0)||!(z.sd==0))
 | 7=>decide (0<IntKind.i64.wrap ((z.td.n:Int)+(z.tc.n:Int)))
 | 8=>decide (0<z.cl.n)
 | 9=>decide (0<z.ea.n)
 | _=>(z.fo !=0)||((z.fn !=0)||decide (0<IntKind.i64.wrap ((z.fi.n:Int)+(z.fk.n:Int))))
def insL:List (Nat×Int×Nat):=[(4,1,0),(8,2,1),(12,4,2),(16,8,3),(20,16,4),(24,32,5),(29,64,6),(40,128,7),(45,256,8),(50,512,9),(69,1024,10)]
def yQ (B:Nat→Bool) (f:Nat→Option Value) (k:Int):Option Value:=
 match insL.find? (fun p=>p.2.1==k) with
 | some p=>if (f p.1).isSome=true then some (.bool (B p.2.2)) else none
 | none=>none
def mapA (B:Nat→Bool) (k:Int):Option Value:=(insL.find? (fun p=>p.2.1==k)).map fun p=>.bool (B p.2.2)
theorem TW:∀p∈insL,insL.find? (fun q=>q.2.1==p.2.1)=some p:=by decide
theorem WR:∀p∈insL,∀q∈insL,q.1=p.1→q.2.1=p.2.1:=by decide
theorem nH {B:Nat→Bool} {f:Nat→Option Value} {k:Int} {q:Nat×Int×Nat} (h:insL.find? (fun p=>p.2.1==k)=some q):yQ B f k=if (f q.1).isSome=true then some (.bool (B q.2.2)) else none:=by unfold yQ;rw[h]
theorem qx {B:Nat→Bool} {f:Nat→Option Value} {k:Int} (h:insL.find? (fun p=>p.2.1==k)=none):yQ B f k=none:=by unfold yQ;rw[h]
theorem qZ {k:Int} {q:Nat×Int×Nat} (h:insL.find? (fun p=>p.2.1==k)=some q):q∈insL∧q.2.1=k:=by
 refine⟨List.mem_of_find?_eq_some h,?_⟩;have:=List.find?_some h;simpa using this
theorem WY (B:Nat→Bool) (f:Nat→Option Value) (u:Value) (p:Nat×Int×Nat) (hp:p∈insL):mY (yQ B f) p.2.1 (some (.bool (B p.2.2)))=yQ B (fO f p.1 u):=by
 funext k;unfold mY;by_cases hk:k=p.2.1
 ·rw[if_pos hk,hk,nH (TW p hp),dG];rfl
 ·rw[if_neg hk]
  cases hq:insL.find? (fun p=>p.2.1==k) with
  | none=>rw[qx hq,qx hq]
  | some q=>
   obtain⟨h1,h2⟩:=qZ hq;rw[nH hq,nH hq,aN];intro e;exact hk (by rw[←h2];exact WR p hp q h1 e)
theorem Ud (B:Nat→Bool) {f:Nat→Option Value} (h:∀p∈insL,f p.1=none):yQ B f=fun _=>none:=by
 funext k;cases hq:insL.find? (fun p=>p.2.1==k) with
 | none=>rw[qx hq]
 | some q=>rw[nH hq,h q (qZ hq).1];rfl
theorem Ew (B:Nat→Bool) {f:Nat→Option Value} (h:∀p∈insL,(f p.1).isSome=true):yQ B f=mapA B:=by
 funext k;unfold mapA;cases hq:insL.find? (fun p=>p.2.1==k) with
 | none=>rw[qx hq];rfl
 | some q=>rw[nH hq,h q (qZ hq).1];rfl
theorem Qi (B:Nat→Bool) {f g:Nat→Option Value} (h:∀p∈insL,g p.1=f p.1):yQ B g=yQ B f:=by
 funext k;cases hq:insL.find? (fun p=>p.2.1==k) with
 | none=>rw[qx hq,qx hq]
 | some q=>rw[nH hq,nH hq,h q (qZ hq).1]
theorem Eo:∀p∈insL,p.1≠0:=by decide
def fG:Nat→List Nat:=fun x=>if x=0 then [] else [0]
def oH (B:Nat→Bool) (X:aB) (f:Nat→Option Value):aB:=
 match f 0 with
 | none=>X
 | some v=>ex fun p:Nat×Nat=>sep (fact (v=.map (some p.1))) (sep (xB p.1 (yQ B f) p.2) X)
theorem oI {B:Nat→Bool} {X:aB} {f:Nat→Option Value} (h:f 0=none):oH B X f=X:=by unfold oH;rw[h]
theorem jU {W w:World} {B:Nat→Bool} {X:aB} {f:Nat→Option Value} {v:Value} (h:f 0=some v):Sat W w (oH B X f)↔∃b n,v=.map (some b)∧Sat W w (sep (xB b (yQ B f) n) X):=by
 unfold oH;rw[h];simp only;rw[Sat.ex];exact⟨fun ⟨⟨b,n⟩,h⟩=>⟨b,n,Sat.fact.1 h⟩,fun ⟨b,n,h⟩=>⟨(b,n),Sat.fact.2 h⟩⟩
theorem I8 {W w:World} {B:Nat→Bool} {X:aB} {f:Nat→Option Value} (h:Sat W w (oH B X f)):Sat W w X:=by
 cases h0:f 0 with
 | none=>rwa [oI h0] at h
 | some v=>
  obtain⟨b,n,-,h1⟩:=(jU h0).1 h;obtain⟨es,clock,-,-,-,h2⟩:=h1.nO;exact h2.forget
theorem zK {W w:World} {B:Nat→Bool} {X:aB} {f:Nat→Option Value} (h0:f 0=none) (hn:∀p∈insL,f p.1=none) (h:Sat W w (oH B X f)):Sat W (w.alloc (.map #[] 0)) (oH B X (fO f 0 (.map (some w.heap.size)))):=by
 rw[oI h0] at h;refine (jU dG).2 ⟨w.heap.size,0,rfl,?_⟩;have h1:Sat W (w.alloc (.map #[] 0)) (sep (xB w.heap.size (fun _=>none) 0) X):=h.Lu;rw[Qi B (g:=fO f 0 (.map (some w.heap.size))) (f:=f) (fun p hp=>aN (Eo p hp)),Ud B hn];exact h1
theorem bP {P:Program} {W w:World} {B:Nat→Bool} {X:aB} {f:Nat→Option Value} {T K E:TypeId} (hT:P.underlying T=some (.map K E)) (hK:P.underlying K=some (.int .i64)) (p:Nat×Int×Nat) (hp:p∈insL) (u:Value) {v:Value} (h0:f 0=some v) (h:Sat W w (oH B X f)):
 ∃b w',v=.map (some b)∧(Instr.mapUpdate T (.map (some b)) (.int .i64 p.2.1) (.bool (B p.2.2))).run P w=.ok () w'∧Sat W w' (oH B X (fO f p.1 u)):=by
 obtain⟨b,n,rfl,h1⟩:=(jU h0).1 h;obtain⟨w',n',hr,-,h2⟩:=nD hT hK h1 p.2.1 (.bool (B p.2.2));refine⟨b,w',rfl,hr,?_⟩;have hne:fO f p.1 u 0=some (.map (some b)):=by
  rw[aN (Ne.symm (Eo p hp))];exact h0
 refine (jU hne).2 ⟨b,n',rfl,?_⟩;rw[←WY B f u p hp];exact h2
def SF (f:Fm):Prop:=dA f∨∃o n:Int,jP o∧0≤n∧n≤1∧f=.mk o n [] []
theorem SF.zero:SF Fm.zero:=.inr ⟨0,0,⟨by omega,by omega⟩,by omega,by omega,rfl⟩
theorem SF.enc {f:Fm} (h:SF f):f.n64∧(dw f).length≤440:=by
 rcases h with h|⟨o,n,ho,h1,h2,rfl⟩
 ·exact kF h
 ·refine⟨by rw[Fm.n64];exact⟨ho,⟨by omega,by omega⟩,by simp,by rw[Fm.EC];trivial⟩,?_⟩
  have:=qR (o:=o) (n:=n) (i:=[]) (k:=[]) ho ⟨by omega,by omega⟩ (by simp) (by simp);simp[dU,eY] at this;omega
theorem SF.ok {f:Fm} (h:SF f):SK f:=⟨h.enc.1,by have:=h.enc.2;omega⟩
theorem SF.size {f:Fm} (h:SF f):f.size≤Go.Proofs.YthfmaclnccdcbaaGreatDoor.nN:=by
 rcases h with h|⟨o,n,ho,h1,h2,rfl⟩
 ·have:=(D9 h).sz
  unfold Go.Proofs.YthfmaclnccdcbaaGreatDoor.nN;omega
 ·simp[Fm.size,Fm.sizes,Go.Proofs.YthfmaclnccdcbaaGreatDoor.nN]
theorem Wu {x:Iv} (h:Di x):Go.Proofs.YthfmaclnccdcbaaGreatDoor.KJ x:=by
 obtain⟨h1,h2,h3,h4,h5⟩:=h;have hh:0≤x.hn∧x.hn≤8∧0≤x.hd∧x.hd≤1:=by
  rcases h5 with ⟨-,e1,e2,-⟩|⟨-,e1,e2,e3⟩
  ·rw[e1,e2];omega
  ·omega
 refine⟨⟨?_,?_,?_,?_⟩,⟨?_,?_,?_,?_⟩⟩<;>simp only[Iv.lw,Iv.up]<;>omega
theorem Hr {f:Fm} (h:dA f):(∀g∈f.nodes,∀x∈g.ins,Go.Proofs.YthfmaclnccdcbaaGreatDoor.KJ x)∧f.ins.length≤1∧f.kids.length≤2:=by
 have hc:∀{f:Fm},pW f→(∀g∈f.nodes,∀x∈g.ins,Go.Proofs.YthfmaclnccdcbaaGreatDoor.KJ x)∧f.ins.length≤1∧f.kids.length≤2:=by
  rintro f ⟨n,-,-,rfl⟩;simp[Fm.nodes,Fm.bV,Fm.ins,Fm.kids]
 have hv:∀{f:Fm},AB f→(∀g∈f.nodes,∀x∈g.ins,Go.Proofs.YthfmaclnccdcbaaGreatDoor.KJ x)∧f.ins.length≤1∧f.kids.length≤2:=by
  rintro f ⟨n,x,-,-,hx,rfl⟩;refine⟨?_,by simp[Fm.ins],by simp[Fm.kids]⟩;intro g hg y hy;simp[Fm.nodes,Fm.bV] at hg;subst hg;simp[Fm.ins] at hy;subst hy;exact Wu hx
 have two:∀{o:Int} {f g:Fm},(∀a∈f.nodes,∀x∈a.ins,Go.Proofs.YthfmaclnccdcbaaGreatDoor.KJ x)→(∀a∈g.nodes,∀x∈a.ins,Go.Proofs.YthfmaclnccdcbaaGreatDoor.KJ x)→(∀a∈(Fm.mk o 0 [] [f,g]).nodes,∀x∈a.ins,Go.Proofs.YthfmaclnccdcbaaGreatDoor.KJ x)∧(Fm.mk o 0 [] [f,g]).ins.length≤1∧(Fm.mk o 0 [] [f,g]).kids.length≤2:=by
  intro o f g h1 h2;refine⟨?_,by simp[Fm.ins],by simp[Fm.kids]⟩;intro a ha;simp[Fm.nodes,Fm.bV] at ha;rcases ha with rfl|ha|ha
  ·intro x hx;simp[Fm.ins] at hx
  ·exact h1 a ha
  ·exact h2 a ha
 have one:∀{o:Int} {f:Fm},(∀a∈f.nodes,∀x∈a.ins,Go.Proofs.YthfmaclnccdcbaaGreatDoor.KJ x)→(∀a∈(Fm.mk o 0 [] [f]).nodes,∀x∈a.ins,Go.Proofs.YthfmaclnccdcbaaGreatDoor.KJ x)∧(Fm.mk o 0 [] [f]).ins.length≤1∧(Fm.mk o 0 [] [f]).kids.length≤2:=by
  intro o f h1;refine⟨?_,by simp[Fm.ins],by simp[Fm.kids]⟩;intro a ha;simp[Fm.nodes,Fm.bV] at ha;rcases ha with rfl|ha
  ·intro x hx;simp[Fm.ins] at hx
  ·exact h1 a ha
 cases h with
 | c h=>exact hc h
 | v h=>exact hv h
 | GZ h g=>exact two (hc h).1 (hv g).1
 | Un h g=>exact two (hc h).1 (hv g).1
 | Xj h g=>exact two (hc h).1 (hc g).1
 | VH h g=>exact two (hc h).1 (one (hc g).1).1
 | part h=>exact one (hc h).1
 | VI h g=>exact two (hc h).1 (one (hv g).1).1
theorem SF.fmK {f:Fm} (h:SF f):Go.Proofs.YthfmaclnccdcbaaGreatDoor.KQ f∧f.ins.length≤1∧f.kids.length≤2:=by
 refine⟨⟨by have:=h.size;unfold Go.Proofs.YthfmaclnccdcbaaGreatDoor.nN at this;unfold Go.Proofs.YthfmaclnccdcbaaGreatDoor.qI;exact this,?_⟩,?_⟩
 ·rcases h with h|⟨o,n,ho,h1,h2,rfl⟩
  ·exact (Hr h).1
  ·simp[Fm.nodes,Fm.bV,Fm.ins]
 ·rcases h with h|⟨o,n,ho,h1,h2,rfl⟩
  ·exact (Hr h).2
  ·simp[Fm.ins,Fm.kids]
def SCl (l:List Cl):Prop:=l=[]∨kR l∨∃r:Int,jP r∧l=[⟨[r],Fm.zero⟩]
theorem SCl.body {l:List Cl} (h:SCl l):∀c∈l,SF c.body:=by
 rcases h with rfl|h|⟨r,hr,rfl⟩
 ·intro c hc;cases hc
 ·intro c hc
  obtain⟨i,hi,rfl⟩:=List.mem_iff_getElem.1 hc;exact .inl (h.2.2 i hi).1
 ·intro c hc
  rw[vW hc];exact SF.zero
theorem SCl.len {l:List Cl} (h:SCl l):l.length≤3:=by
 rcases h with rfl|h|⟨r,hr,rfl⟩
 ·simp
 ·exact h.2.1
 ·simp
theorem SCl.ok {l:List Cl} (h:SCl l):(∀c∈l,FW c)∧(gJ l).length≤1500:=by
 rcases h with rfl|h|⟨r,hr,rfl⟩
 ·exact⟨fun c hc=>(by cases hc),RU⟩
 ·exact⟨fun c hc=>(zY h c hc).1,D8 h⟩
 ·have h64:∀x∈[r],-9223372036854775808≤x∧x≤9223372036854775807:=fun x hx=>by rw[vW hx];exact hr
  refine⟨fun c hc=>?_,?_⟩
  ·rw[vW hc]
   exact⟨h64,by simp,SF.zero.enc.1,by have:=SF.zero.enc.2;simp only;omega⟩
  ·unfold gJ oM
   rw[dM];have e1:=jw (r:=(([⟨[r],Fm.zero⟩]:List Cl).length:Int)) (by simp) (by simp);have e2:=Jh (l:=[r]) (by simp) h64;have e3:=jd SF.zero.enc.2 (by omega);have e4:(List.map oL [⟨[r],Fm.zero⟩]).flatten.length=(gu [r]).length+(encR (dw Fm.zero)).length:=by simp[oL]
   rw[e4];simp only[List.length_singleton] at e2;omega
structure wO (N:Nat) (x:Pa):Prop where
 ns:∀r∈gV x,jP r
 td:∀f∈x.td,SF f
 tn:x.td.length≤2
 tc:SCl x.tc
 cl:SCl x.cl
 en:x.ea.length≤N
 ea:∀e∈x.ea,jP e.file∧jP e.day
 fx:SF x.fx
theorem ShA.sp {x:Pa} (h:ShA x):wO 2 x:=by
 refine⟨fun r hr=>?_,fun f hf=>.inl (h.td f hf),h.tn,h.tc.imp id .inl,h.cl.imp id .inl,h.en,fun e he=>?_,?_⟩
 ·have:=h.ns r hr;exact⟨by omega,by omega⟩
 ·have:=h.ea e he;exact⟨⟨by omega,by omega⟩,by omega,by omega⟩
 ·rcases h.fx with e|e
  ·rw[e];exact SF.zero
  ·exact .inl e
theorem wO.zero:wO 0 Pa.zero:=by
 refine⟨?_,by simp[Pa.zero],by simp[Pa.zero],.inl rfl,.inl rfl,by simp[Pa.zero],by simp[Pa.zero],SF.zero⟩;intro r hr;simp[gV,Pa.zero] at hr;subst hr;exact⟨by omega,by omega⟩
theorem wO.mono {N M:Nat} {x:Pa} (h:wO N x) (hl:N≤M):wO M x:=⟨h.ns,h.td,h.tn,h.tc,h.cl,by have:=h.en;omega,h.ea,h.fx⟩
theorem wO.szA {N:Nat} {x:Pa} (h:wO N x):YK x:=⟨fun f hf=>(h.td f hf).size,fun c hc=>(h.tc.body c hc).size,fun c hc=>(h.cl.body c hc).size,h.fx.size⟩
theorem wO.szM {N:Nat} {x:Pa} (h:wO N x):YL x:=by
 refine⟨fun f hf=>(h.td f hf).fmK.1,fun c hc=>(h.tc.body c hc).fmK.1,fun c hc=>(h.cl.body c hc).fmK.1,h.fx.fmK.1,?_,?_⟩
 ·have h1:=h.ns x.sn (by simp[gV])
  have h2:=h.ns x.sd (by simp[gV]);exact⟨h1.1,h1.2,h2.1,h2.2⟩
 ·have h1:=h.tn
  have h2:=h.tc.len;have h3:=h.fx.fmK.2;omega
theorem wO.txl {N:Nat} {x:Pa} (h:wO N x):(nG x.td x.tc).length≤3000:=by
 have htd:(tJ x.td).length≤450*x.td.length:=iY (fun f=>encR (gK f)) fun f hf=>jd (kU (h.td f hf).enc.2) (by omega)
 have htn:450*x.td.length≤450*2:=Nat.mul_le_mul_left _ h.tn;have e1:=jw (r:=(x.td.length:Int)) (by omega) (by have:=h.tn;omega);have e2:=jd (jr h.tc.ok.2) (by omega);unfold nG;rw[dM,dM];omega
theorem wO.VZ {N:Nat} {x:Pa} (h:wO N x) (hN:N≤1000):(L6 x).length≤26000:=by
 have htx:=h.txl;have hen:(lG x.ea).length≤20*x.ea.length:=iY pY fun e he=>by
  have:=h.ea e he;unfold pY;rw[dM];have:=jw this.1.1 this.1.2;have:=jw (h.ea e he).2.1 (h.ea e he).2.2;omega
 have afE:20*x.ea.length≤20*N:=Nat.mul_le_mul_left _ h.en;have e3:=jw (r:=(x.ea.length:Int)) (by omega) (by have:=h.en;omega);have hkd:(iP x).length≤24000:=by
  unfold iP;split
  ·rw[dM,dM]
   have:=jd (nS htx) (by omega);omega
  ·split
   ·have:=jd (kU h.fx.enc.2) (by omega)
    omega
   ·simp
 have hac:(uI x).length≤1510:=by
  unfold uI;split
  ·simp
  ·exact jd (jr h.cl.ok.2) (by omega)
 have hn1:=iY PA.encI (B:=10) (l:=gV x) fun r hr=>jw (h.ns r hr).1 (h.ns r hr).2
 have hn2:(gV x).length=11:=rfl;rw[hn2] at hn1;unfold L6;rw[dM,dM];omega
theorem wO.enc {N:Nat} {x:Pa} (h:wO N x) (hN:N≤1000):uj x:=
 ⟨h.ns,fun f hf=>(h.td f hf).ok,h.tc.ok.1,h.cl.ok.1,fun e he=>h.ea e he,h.fx.ok,by have:=h.txl;omega,by have:=h.tc.ok.2;omega,by have:=h.cl.ok.2;omega,by have:=h.VZ hN;omega⟩
theorem Qo (x:Pa):(∀r∈gV x,jP r)↔jP x.k∧jP x.d∧jP x.n∧jP x.f∧jP x.o∧jP x.p∧jP x.q∧jP x.u∧jP x.m∧jP x.sn∧jP x.sd:=by
 simp[gV]
theorem RX (I:Mem) (k d n f o p q u m sn sd:Int):lT I ⟨k,d,n,f,o,p,q,u,m,sn,sd,ak,ak,ak,ak,0,0,ak,ak⟩ ⟨k,d,n,f,o,p,q,u,m,sn,sd,[],[],[],[],Fm.zero⟩:=
 ⟨rfl,rfl,rfl,rfl,rfl,rfl,rfl,rfl,rfl,rfl,rfl,aF _ _ _,aF _ _ _,aF _ _ _,aF _ _ _,dX I⟩
theorem RY {k d n f o p q u m sn sd:Int} (h:jP k∧jP d∧jP n∧jP f∧jP o∧jP p∧jP q∧jP u∧jP m∧jP sn∧jP sd):wO 0 ⟨k,d,n,f,o,p,q,u,m,sn,sd,[],[],[],[],Fm.zero⟩:=by
 have hz:=wO.zero;exact⟨(Qo _).2 h,hz.td,hz.tn,hz.tc,hz.cl,hz.en,hz.ea,hz.fx⟩
def Q8 (J:Mem) (N:Nat) (Ls:List (Ac×Pa)):Prop:=∀p∈Ls,lT J p.1 p.2∧wO N p.2
theorem Q8.mono {I J:Mem} {N M:Nat} {Ls:List (Ac×Pa)} (h:Q8 I N Ls) (hl:Mem.le I J) (hn:N≤M):Q8 J M Ls:=fun p hp=>⟨(h p hp).1.mono hl,(h p hp).2.mono hn⟩
theorem Q8.append {J:Mem} {N:Nat} {Ls Ms:List (Ac×Pa)} (h:Q8 J N Ls) (g:Q8 J N Ms):Q8 J N (Ls++Ms):=fun p hp=>(List.mem_append.1 hp).elim (h p) (g p)
theorem NM {P:Ac→Pa→Prop}:∀zl:List Ac,(∀z∈zl,∃p,P z p)→∃Ls:List (Ac×Pa),Ls.map (·.1)=zl∧∀q∈Ls,P q.1 q.2
 | [],_=>⟨[],rfl,fun q hq=>(by cases hq)⟩
 | z::zl,h=>by
  obtain⟨p,hp⟩:=h z (List.mem_cons_self ..);obtain⟨Ls,h1,h2⟩:=NM zl fun y hy=>h y (tY _ hy)
  refine⟨(z,p)::Ls,by rw[mM,h1],fun q hq=>?_⟩;rcases List.mem_cons.1 hq with rfl|hq
  ·exact hp
  ·exact h2 q hq
end PA
namespace Go.Proofs.YthfmaclnccdcbaaGreatDoor
open Go.RowKit PA
theorem xk {g o:Nat} {x:Ac} {w w':World} (h:Sem.run Tryz.prog (storeCells ⟨g,o,none⟩ x.cells 0) w=.ok () w'):Sem.run Tryz.prog (Oi (.pointer (some ⟨g,o,none⟩)) (.agg x.cells.toArray)) w=.ok () w':=by
 have hk:¬(Value.agg x.cells.toArray).cells.size≠kA:=by
  intro hc;exact hc rfl
 show Sem.run Tryz.prog (storeVar 36 ⟨g,o,none⟩ (.agg x.cells.toArray)) w=_;unfold storeVar;rw[Sem.run_bind,aV];show Sem.run Tryz.prog (if (Value.agg x.cells.toArray).cells.size≠kA then _ else _) w=_;rw[if_neg hk];exact h
theorem Lj {W w:World} {A:aB} {g N:Nat} {f:Nat→Ac} {tl:List Value} (h:Sat W w (sep (iC g N f tl) A)) (i:Nat) (hi:i<N):Sem.run Tryz.prog (mg (.pointer (some ⟨g,i*19,none⟩))) w=.ok (.agg (f i).cells.toArray) w:=by
 show Sem.run Tryz.prog (loadVar 36 ⟨g,i*19,none⟩) w=_;unfold loadVar;exact RQ (Go.isAgg 36) (Go.sizeOf 36) (loadCells ⟨g,i*19,none⟩) _ (yN w) (aV w) (iE h i hi)
theorem VD (xs:List Ac):∀u∈bY xs,u.oneCell'=true:=by
 intro u hu;obtain⟨x,hx,hu⟩:=List.mem_flatMap.1 hu;exact x.one u hu
theorem Xl {W w:World} {A:aB} {E k:Nat} {a:Option Addr} {n c:Nat} {xs:List Value} (h:Sat W w (sep (aT E k a n c xs) A)):∀b,a=some b→∀j u,xs[j]?=some u→w.cell? (b.add j)=some u:=by
 intro b hb j u hu;obtain⟨g,e,hc⟩:=h.Ah (fun e=>by rw[e] at hu;simp at hu);rw[hb] at e;cases e;rw[show (⟨g,0,none⟩:Addr).add j=⟨g,j,none⟩ by unfold Addr.add;split<;>simp_all];exact hc j u hu
def YI (W:World) (I:Mem) (A:aB) (most:Nat) (e:Ending) (w':World):Prop:=
 ∃(a:Option Addr) (n c:Nat) (Ls:List (Ac×Pa)) (J:Mem),e=.returned (.slice a n c)∧n=Ls.length∧n≤most∧(n=0→a=none∧c=0)∧Mem.le I J∧Q8 J 2 Ls∧(∀p∈Ls,bC p.2=true)∧Sat W w' (sep (aT 36 19 a n c (bY (Ls.map (·.1)))) (sep (kn J) A))
attribute [local go_sem ↓] aY bI aV
end Go.Proofs.YthfmaclnccdcbaaGreatDoor

/- Part of a proof. -/
import Derived.Test.YthfmaclnccdcbaaGreatDoorGActsValid23
import Derived.Test.YthfmaclnccdcbaaGreatDoorGActsValid6
namespace PA
open Go Go.RowKit
theorem zG {I:Mem} {a:Option Addr} {n c:Nat} {l:List Ea} (h:(J9.slice 2).rel I [.slice a n c] l) {i:Nat} {x:Ea} (hx:l[i]?=some x):
 ∃b o,a=some ⟨b,o,none⟩∧∀w',Ext I w'→w'.cell? ⟨b,o+i*2,none⟩=some (.int .i64 x.file)∧w'.cell? ⟨b,o+i*2+1,none⟩=some (.int .i64 x.day):=by
 obtain⟨b,o,cs,rfl,hr,-,hc⟩:=kH h hx (by omega)
 have e:cs=[.int .i64 x.file,.int .i64 x.day]:=hr
 subst e
 exact⟨b,o,rfl,fun w' he=>⟨hc w' he 0 _ rfl,hc w' he 1 _ rfl⟩⟩
theorem NM {f:Int} {l:List Ea} {j:Nat} {e:Ea} (h:l[j]?=some e):FT f l j=(aJ e.file 0 4095&&(decide (e.file≠f)&&(aJ e.day 0 131072&&!((l.take j).any fun g=>decide (g.file=e.file))))):=by
 unfold FT;rw[h]
theorem I8 {l:List Ea} {k:Nat} {g:Ea} {p:Ea→Bool} (h:l[k]?=some g):(l.take (k+1)).any p=((l.take k).any p||p g):=by
 rw[List.take_add_one,h,List.any_append];simp
end PA
namespace Go.Proofs.YthfmaclnccdcbaaGreatDoor
open Go.RowKit PA
theorem gq {W w:World} {A:aB} {q:Nat} {x:Ac} (h:Sat W w (sep (blk q (.cells x.cells.toArray 36 (0,0))) A)):
 Sem.run Tryz.prog (eX (.pointer (some ⟨q,0,none⟩))) w=.ok (.agg x.cells.toArray) w:=
 dN fun i v hv=>(ay h i v hv).1
theorem aZ (n lo hi:Int) (w:World):Calls Tryz.prog 60 #[.int .i64 n,.int .i64 lo,.int .i64 hi] w fun e w'=>e=.returned (.bool (aJ n lo hi))∧w=w':=by
 obtain⟨r,hr⟩:=aC (aJ n lo hi)
 rw[←hr]
 have HR:=ah hr
 clear hr
 by_cases h1:lo≤n
 ·by_cases h2:n≤hi
  ·have HF:Hid (r=true):=ah (by rw[HR.out];unfold aJ;rw[decide_eq_true h1,decide_eq_true h2];rfl)
   go_enter Tryz.func60,Tryz.ntmps60
   go_wp2
   go_ret
   exact⟨by rw[HF.out];try rfl,rfl⟩
  ·have HF:Hid (r=false):=ah (by rw[HR.out];unfold aJ;rw[decide_eq_true h1,decide_eq_false h2];rfl)
   go_enter Tryz.func60,Tryz.ntmps60
   go_wp2
   go_ret
   exact⟨by rw[HF.out];try rfl,rfl⟩
 ·have HF:Hid (r=false):=ah (by rw[HR.out];unfold aJ;rw[decide_eq_false h1];rfl)
  go_enter Tryz.func60,Tryz.ntmps60
  go_wp2
  go_ret
  exact⟨by rw[HF.out];try rfl,rfl⟩
end Go.Proofs.YthfmaclnccdcbaaGreatDoor
namespace PA
open Go Go.RowKit
def VU (S:Int→Bool) (k:Int):Option Value:=if S k=true then some (.bool true) else none
theorem TS (S:Int→Bool) (k:Int):kP (VU S) k (some (.bool true))=VU (fun i=>S i||i==k):=by
 funext i
 unfold kP VU
 by_cases h:i=k
 ·subst h;simp
 ·have e:(i==k)=false:=by simpa using h
  rw[if_neg h];simp only[e,Bool.or_false]
def OM (F:Int) (l:List Ea) (j:Nat) (k:Int):Bool:=k==F||(l.take j).any fun g=>decide (g.file=k)
theorem TT {F:Int} {l:List Ea} {j:Nat} {e:Ea} (h:l[j]?=some e):(fun i=>OM F l j i||i==e.file)=OM F l (j+1):=by
 funext i
 unfold OM
 rw[I8 h,Bool.or_assoc]
 congr 2
 by_cases hi:i=e.file
 ·rw[hi];simp
 ·have e1:(i==e.file)=false:=by simpa using hi
  rw[e1,decide_eq_false (Ne.symm hi)]
theorem TU {F:Int} {l:List Ea} {j:Nat} {e:Ea} (h:l[j]?=some e):(OM F l j e.file||(!aJ e.file 0 4095||!aJ e.day 0 131072))=!FT F l j:=by
 rw[NM h]
 unfold OM
 by_cases hF:e.file=F
 ·rw[hF];simp
 ·have e1:(e.file==F)=false:=by simpa using hF
  rw[e1,decide_eq_true hF]
  cases (List.take j l).any fun g=>decide (g.file=e.file)<;>cases aJ e.file 0 4095<;>cases aJ e.day 0 131072<;>rfl
def OO (x:Pa):Bool:=aJ x.q (-1) 4095&&(decide (x.q≠x.f)&&(decide (x.ea.length≤8)&&(decide (FP x.td x.tc=0)&&kT x.f x.ea x.ea.length)))
structure SzM (x:Pa):Prop where
 td:∀f∈x.td,Go.Proofs.YthfmaclnccdcbaaGreatDoor.IL f
 tc:∀c∈x.tc,Go.Proofs.YthfmaclnccdcbaaGreatDoor.IL c.body
 cl:∀c∈x.cl,Go.Proofs.YthfmaclnccdcbaaGreatDoor.IL c.body
 fx:Go.Proofs.YthfmaclnccdcbaaGreatDoor.IL x.fx
 sh:Go.Proofs.YthfmaclnccdcbaaGreatDoor.Qu ⟨x.sn,x.sd⟩
 ln:x.td.length+x.tc.length+x.fx.ins.length+x.fx.kids.length≤4000000
end PA
namespace Go.Proofs.YthfmaclnccdcbaaGreatDoor
open Go.RowKit PA
theorem QO (w:World):(zeroValue 4).run Tryz.prog w=.ok (.bool false) w:=by kernel_rfl
def LH (KC mb:Nat) (S:Int→Bool) (n:Nat):aB:=sep (blk KC (.cells #[.map (some mb)] 144 (0,0))) (tY mb (VU S) n)
set_option maxRecDepth 100000 in
set_option maxHeartbeats 4000000 in
theorem LJ {W w:World} {A:aB} (KC mb:Nat) (S:Int→Bool) (n:Nat) (fl dy:Int) (h:Sat W w (sep (LH KC mb S n) A)):
 Calls Tryz.prog 158 #[.agg #[.int .i64 fl,.int .i64 dy],.pointer (some ⟨KC,0,none⟩)] w fun e w'=>e=.returned (.bool (S fl||(!aJ fl 0 4095||!aJ dy 0 131072)))∧∃n',Sat W w' (sep (LH KC mb (fun i=>S i||i==fl) n') A):=by
 unfold LH at h
 rw[aj] at h
 have h1:=h.alloc (.cells #[.int .i64 fl,.int .i64 dy] 93)
 obtain⟨B,hB⟩:=aC (w.heap.size)
 obtain⟨w1,hw1⟩:=aC (w.alloc (.cells #[.int .i64 fl,.int .i64 dy] 93))
 rw[←hB,←hw1] at h1
 have HB:=ah (And.intro hB hw1)
 obtain⟨b0,hb0⟩:=aC (S fl)
 obtain⟨b1,hb1⟩:=aC (aJ fl 0 4095)
 obtain⟨b2,hb2⟩:=aC (aJ dy 0 131072)
 have C1:Hid (∀w',Calls Tryz.prog 60 #[.int .i64 fl,.int .i64 0,.int .i64 4095] w' fun e w''=>e=.returned (.bool b1)∧w'=w''):=ah fun w'=>by rw[hb1];exact aZ _ _ _ w'
 have C2:Hid (∀w',Calls Tryz.prog 60 #[.int .i64 dy,.int .i64 0,.int .i64 131072] w' fun e w''=>e=.returned (.bool b2)∧w'=w''):=ah fun w'=>by rw[hb2];exact aZ _ _ _ w'
 have hlk:=yN (P:=Tryz.prog) (T:=144) Tryz.underlying144 Tryz.underlying3 QO h1.p2 fl false
 have e0:(VU S fl).getD (.bool false)=.bool b0:=by unfold VU;rw[←hb0];cases b0<;>rfl
 rw[e0] at hlk
 simp only[Bool.false_eq_true,if_false] at hlk
 obtain⟨w2,n',hup,-,h3⟩:=kN (P:=Tryz.prog) (T:=144) Tryz.underlying144 Tryz.underlying3 h1.p2 fl (.bool true)
 rw[TS] at h3
 have k0:w1.cell? ⟨B,0,none⟩=some (.int .i64 fl):=h1.cell 0
 have kc:w1.cell? ⟨KC,0,none⟩=some (.map (some mb)):=h1.p1.cell 0
 have H3:Hid (Sat W w2 (sep (blk B (.cells #[.int .i64 fl,.int .i64 dy] 93 (0,0))) (sep (LH KC mb (fun i=>S i||i==fl) n') A))):=ah (by unfold LH;simpa only[au,ak,aj] using h3)
 rw[←hb0,←hb1,←hb2]
 obtain⟨Po,fK⟩:∃P:Ending→World→Prop,P=fun e w'=>e=.returned (.bool (b0||(!b1||!b2)))∧∃n',Sat W w' (sep (LH KC mb (fun i=>S i||i==fl) n') A):=⟨_,rfl⟩
 rw[←fK]
 have bP:=ah fK
 clear h h1 h3 hB hw1 e0 hb0 hb1 hb2 fK
 go_enter Tryz.func158,Tryz.ntmps158
 go_upto_region 1 with (fail)
 rw[←HB.out.1,←HB.out.2]
 go_upto_region 3 with (fail)
 clear k0 kc hlk hup
 have k0:w2.cell? ⟨B,0,none⟩=some (.int .i64 fl):=H3.out.cell 0
 have k1:w2.cell? ⟨B,1,none⟩=some (.int .i64 dy):=H3.out.cell 1
 have HF:=ah (Exists.intro (p:=fun n'=>Sat W w2 (sep (LH KC mb (fun i=>S i||i==fl) n') A)) n' H3.out.forget)
 clear H3
 cases b0 with
 | true=>
  go_wp2
  rw[bP.out]
  exact⟨rfl,HF.out⟩
 | false=>
  go_wp2_with fail
  refine (C1.out _).mono ?_
  rintro e w3 ⟨rfl,rfl⟩
  cases b1 with
  | false=>
   go_wp2
   rw[bP.out]
   exact⟨rfl,HF.out⟩
  | true=>
   go_wp2_with fail
   refine (C2.out _).mono ?_
   rintro e w3 ⟨rfl,rfl⟩
   go_wp2
   rw[bP.out]
   exact⟨by cases b2<;>rfl,HF.out⟩
set_option maxRecDepth 100000 in
set_option maxHeartbeats 4000000 in
theorem FU {W w:World} {A:aB} {I:Mem} (KC mb:Nat) (F:Int) (n0:Nat) (a:Option Addr) (n c:Nat) (l:List Ea) (hv:(J9.slice 2).rel I [.slice a n c] l) (h:Sat W w (sep (LH KC mb (OM F l 0) n0) (sep (kn I) A))):
 Calls Tryz.prog 196 #[.slice a n c,.func (.func 158) #[] #[.pointer (some ⟨KC,0,none⟩)]] w fun e w'=>(∃r:Int,e=.returned (.int .i64 r)∧decide (0≤r)=!kT F l l.length)∧Sat W w' (sep (kn I) A):=by
 have hn:=(aI hv).1
 have hn63:=(aI hv).2.2
 obtain⟨Po,fK⟩:∃P:Ending→World→Prop,P=fun e w'=>(∃r:Int,e=.returned (.int .i64 r)∧decide (0≤r)=!kT F l l.length)∧Sat W w' (sep (kn I) A):=⟨_,rfl⟩
 rw[←fK]
 have bP:=ah fK
 have HX:=ah (And.intro hv hn)
 have H:=ah h
 have HD:Hid (∀w' S m,Sat W w' (sep (LH KC mb S m) (sep (kn I) A))→Sat W w' (sep (kn I) A)):=ah fun w' S m h'=>by
  unfold LH at h'
  rw[aj] at h'
  obtain⟨es,cl,-,-,-,h9⟩:=h'.forget.lu
  exact h9.forget
 clear hv h hn fK
 go_enter Tryz.func196,Tryz.ntmps196
 go_wp2
 go_loopw [8] (fun iv wr=>∃(i m:Nat),iv=.int .i64 i∧i≤n∧Hid (kT F l i=true)∧Sat W wr (sep (LH KC mb (OM F l i) m) (sep (kn I) A))) (fun iv _=>n-(intOf iv).toNat)
 case atStart=>exact⟨0,n0,rfl,by omega,ah rfl,H.out⟩
 case round=>
  obtain⟨i,m,rfl,hi,HT,hS⟩:=hrel
  clear H
  by_cases hlt:i<n
  ·have hltz:(i:Int)<(n:Int):=by omega
   obtain⟨e,he⟩:∃e,l[i]?=some e:=⟨_,List.getElem?_eq_getElem (by have:=HX.out.2;omega)⟩
   obtain⟨b,o,rfl,hcell⟩:=zG HX.out.1 he
   obtain⟨j0,j1⟩:=hcell wr hS.p1.ext
   have hcall:=LJ KC mb (OM F l i) m e.file e.day hS
   rw[TU he,TT he] at hcall
   obtain⟨be,hbe⟩:=aC (FT F l i)
   rw[←hbe] at hcall
   have HC:=ah hcall
   have HE:=ah (And.intro hbe hlt)
   obtain⟨ef,hef⟩:=aC (e.file)
   obtain⟨ed,hed⟩:=aC (e.day)
   rw[←hef] at j0 HC
   rw[←hed] at j1 HC
   clear hcell he hS hcall hbe hlt hi hef hed
   go_wp2_with fail
   refine HC.out.mono ?_
   rintro e' w2 ⟨rfl,m',h2⟩
   clear j0 j1 HC
   cases be with
   | true=>
    have H2:=ah h2
    have HN:Hid (kT F l (i+1)=true):=ah (by rw[Ed,HT.out,←HE.out.1];rfl)
    clear h2
    go_wp2
    go_roundw
    case rel=>exact⟨i+1,m',by go_num,by have:=HE.out.2;omega,HN,H2.out⟩
    case measure=>simp[intOf];have:=HE.out.2;omega
   | false=>
    have HF:Hid (kT F l l.length=false):=ah (I9 (by have:=HX.out.2;have:=HE.out.2;omega) HE.out.1.symm)
    have H2:=ah (HD.out _ _ _ h2)
    clear h2
    go_wp2
    rw[bP.out]
    exact⟨⟨i,rfl,by rw[HF.out,decide_eq_true (by omega)];rfl⟩,H2.out⟩
  ·obtain rfl:i=n:=by omega
   have HF:Hid (kT F l l.length=true):=ah (by rw[←HX.out.2];exact HT.out)
   have H2:=ah (HD.out _ _ _ hS)
   clear hS hlt hi
   go_wp2
   rw[bP.out]
   exact⟨⟨-1,rfl,by rw[HF.out];rfl⟩,H2.out⟩
theorem Ja {W w:World} {A:aB} {I:Mem} (KC mb:Nat) (F:Int) (n0:Nat) (a:Option Addr) (n c:Nat) (l:List Ea) (hv:(J9.slice 2).rel I [.slice a n c] l) (h:Sat W w (sep (LH KC mb (OM F l 0) n0) (sep (kn I) A))):
 Calls Tryz.prog 157 #[.slice a n c,.func (.func 158) #[] #[.pointer (some ⟨KC,0,none⟩)]] w fun e w'=>e=.returned (.bool (!kT F l l.length))∧Sat W w' (sep (kn I) A):=by
 have HI:=ah (FU KC mb F n0 a n c l hv h)
 obtain⟨rv,dJ⟩:=aC (!kT F l l.length)
 rw[←dJ] at HI ⊢
 clear hv h dJ
 go_enter Tryz.func157,Tryz.ntmps157
 go_wp2_with fail
 refine HI.out.mono ?_
 rintro e w2 ⟨⟨r,rfl,hr⟩,h2⟩
 have H2:=ah h2
 have HR:=ah hr
 clear h2 HI hr
 go_wp2
 go_ret
 exact⟨by first|exact congrArg (fun b=>Ending.returned (.bool b)) HR.out|simp[←HR.out],H2.out⟩
attribute [local go_sem ↓] dw dM bG
set_option maxRecDepth 100000 in
set_option maxHeartbeats 8000000 in
theorem FW {W w:World} {A:aB} {I:Mem} (z:Ac) (x:Pa) (hA:kR I z x) (hz:SzM x) (h:Sat W w (sep (kn I) A)):
 Calls Tryz.prog 116 #[.agg z.cells.toArray] w fun e w'=>∃J,e=.returned (.bool (OO x))∧Mem.le I J∧Sat W w' (sep (kn J) A):=by
 have h1:=(h.alloc (.cells z.cells.toArray 36)).p1
 obtain⟨B,hB⟩:=aC (w.heap.size)
 obtain⟨w1,hw1⟩:=aC (w.alloc (.cells z.cells.toArray 36))
 rw[←hB,←hw1] at h1
 have HB:=ah (And.intro hB hw1)
 obtain⟨b3,hb3⟩:=aC (aJ z.q (-1) 4095)
 obtain⟨te,hte⟩:=aC (FP x.td x.tc)
 obtain⟨ne,hne⟩:=aC (z.ea.n)
 obtain⟨rv,dJ⟩:=aC (OO x)
 have AA:ne=x.ea.length:=by rw[hne];exact (aI hA.ea).1
 have jk:rv=(b3&&(decide (z.q≠z.f)&&(decide (ne≤8)&&(decide (te=0)&&kT z.f x.ea x.ea.length)))):=by
  rw[dJ,hb3,hte,AA,hA.q,hA.f];rfl
 have bI:=ah jk
 have C3:Hid (∀w',Calls Tryz.prog 60 #[.int .i64 z.q,.int .i64 (-1),.int .i64 4095] w' fun e w''=>e=.returned (.bool b3)∧w'=w''):=ah fun w'=>by rw[hb3];exact aZ _ _ _ w'
 have C4:Hid (∀w' A',Sat W w' (sep (kn I) A')→Calls Tryz.prog 128 #[.agg #[.slice z.td.a z.td.n z.td.c,.slice z.tc.a z.tc.n z.tc.c]] w' fun e w''=>∃J,e=.returned (.int .i64 te)∧Mem.le I J∧Sat W w'' (sep (kn J) A')):=ah fun w' A' h'=>by
  rw[hte];exact wo z.td.a z.td.n z.td.c z.tc.a z.tc.n z.tc.c x.td x.tc hA.td hA.tc hz.td hz.tc h'
 have Xu:=ah (And.intro hA.ea AA)
 have k3:=(ay h1.p1 3 _ rfl).1
 have k6:=(ay h1.p1 6 _ rfl).1
 have k11:=(ay h1.p1 11 _ rfl).1
 have k12:=(ay h1.p1 12 _ rfl).1
 have k14:=(ay h1.p1 14 _ rfl).1
 have aa9:(ne:Int)≤9223372036854775807:=by rw[hne];exact (aI hA.ea).2.2
 have yZ:w1.cell? ⟨B,14,none⟩=some (.slice z.ea.a ne z.ea.c):=by rw[hne];exact k14
 have VW:=ah hne
 have H1:=ah h1
 rw[←dJ]
 obtain⟨Po,fK⟩:∃P:Ending→World→Prop,P=fun e w'=>∃J,e=.returned (.bool rv)∧Mem.le I J∧Sat W w' (sep (kn J) A):=⟨_,rfl⟩
 rw[←fK]
 have bP:=ah fK
 have hmf:∀(fn:Fn) (first cap:Array Value) (w:World),(Instr.makeFunc fn first cap).run Tryz.prog w=.ok (.func fn first cap) w:=fun _ _ _ _=>rfl
 have hmm:=@run_makeMap Tryz.prog
 clear hA hz h h1 hB hw1 hb3 hte hne dJ jk AA k14 fK
 go_enter Tryz.func116,Tryz.ntmps116
 go_upto_region 1 with (fail)
 rw[←HB.out.1,←HB.out.2]
 cases b3 with
 | false=>
  have HF:Hid (rv=false):=ah (by rw[bI.out];rfl)
  go_wp2_with fail
  refine (C3.out _).mono ?_
  rintro e w2 ⟨rfl,rfl⟩
  go_wp2
  rw[bP.out]
  exact⟨I,by (rw[HF.out];try rfl),Mem.le_refl _,H1.out.p1.drop⟩
 | true=>
  go_wp2_with fail
  refine (C3.out _).mono ?_
  rintro e w2 ⟨rfl,rfl⟩
  by_cases TV:z.q=z.f
  ·have HF:Hid (rv=false):=ah (by rw[bI.out,TV];simp)
   have hqb:(z.q==z.f)=true:=by simpa using TV
   clear TV
   go_wp2
   rw[bP.out]
   exact⟨I,by (rw[HF.out];try rfl),Mem.le_refl _,H1.out.p1.drop⟩
  ·have hqb:(z.q==z.f)=false:=by simpa using TV
   by_cases h8:8<ne
   ·have HF:Hid (rv=false):=ah (by rw[bI.out,decide_eq_false (show ¬ne≤8 by omega)];simp)
    have h8z:(8:Int)<(ne:Int):=by omega
    clear TV h8
    go_wp2
    rw[bP.out]
    exact⟨I,by (rw[HF.out];try rfl),Mem.le_refl _,H1.out.p1.drop⟩
   ·have h8z:¬(8:Int)<(ne:Int):=by omega
    have HR2:Hid (rv=(decide (te=0)&&kT z.f x.ea x.ea.length)):=ah (by rw[bI.out,decide_eq_true (show ne≤8 by omega),decide_eq_true TV];simp)
    clear TV h8
    go_wp2_with fail
    refine (C4.out _ _ H1.out).mono ?_
    rintro e w2 ⟨J,rfl,hle,h2⟩
    have H2:=ah h2
    have iV:=ah hle
    clear k3 k6 k11 k12 yZ h2 hle C4 C3
    by_cases ht0:te=0
    ·subst ht0
     have k3:=(ay H2.out.p1 3 _ rfl).1
     have h3:Sat W w2 (sep (kn J) (sep (blk B (.cells z.cells.toArray 36 (0,0))) A)):=H2.out
     have h4:=h3.Ht
     obtain⟨mb,hmb⟩:=aC (w2.heap.size)
     obtain⟨w3,hw3⟩:=aC (w2.alloc (.map #[] 0))
     rw[←hmb,←hw3] at h4
     obtain⟨w4,n',hup,-,h5⟩:=kN (P:=Tryz.prog) (T:=144) Tryz.underlying144 Tryz.underlying3 h4 z.f (.bool true)
     have ek:kP (fun _=>none) z.f (some (.bool true))=VU (OM z.f x.ea 0):=by
      funext k
      unfold kP VU OM
      by_cases hk:k=z.f
      ·subst hk;simp
      ·have e1:(k==z.f)=false:=by simpa using hk
       rw[if_neg hk,e1];simp
     rw[ek] at h5
     have h6:=h5.alloc (.cells #[.map (some mb)] 144)
     obtain⟨KC,hKC⟩:=aC (w4.heap.size)
     obtain⟨w5,hw5⟩:=aC (w4.alloc (.cells #[.map (some mb)] 144))
     rw[←hKC,←hw5] at h6
     have h7:Sat W w5 (sep (LH KC mb (OM z.f x.ea 0) n') (sep (kn J) (sep (blk B (.cells z.cells.toArray 36 (0,0))) A))):=by unfold LH;rw[aj];exact h6
     have k14:=(ay (show Sat W w5 (sep (blk B (.cells z.cells.toArray 36 (0,0))) (sep (LH KC mb (OM z.f x.ea 0) n') (sep (kn J) A))) by simpa only[au,ak,aj] using h7) 14 _ rfl).1
     have yZ:w5.cell? ⟨B,14,none⟩=some (.slice z.ea.a ne z.ea.c):=by rw[VW.out];exact k14
     have HC:=ah (Ja KC mb z.f n' z.ea.a ne z.ea.c x.ea (by rw[VW.out];exact (J9.slice 2).mono iV.out Xu.out.1) h7)
     have HW:=ah (And.intro hmb (And.intro hw3 (And.intro hKC hw5)))
     have HR3:Hid (rv=kT z.f x.ea x.ea.length):=ah (by rw[HR2.out];rfl)
     obtain⟨et,het⟩:=aC (kT z.f x.ea x.ea.length)
     rw[←het] at HC HR3
     have Y6:=hup
     have k3a:=(ay h4.p2 3 _ rfl).1
     rw[hmb,hw3] at Y6
     rw[hw3] at k3a
     clear h3 h4 h5 h6 h7 hmb hw3 hKC hw5 ek k14 H2 H1 het hup
     go_upto_region 4 with (fail)
     rw[←HW.out.1,←HW.out.2.2.1,←HW.out.2.2.2]
     clear Y6 k3 k3a hqb h8z
     go_wp2_with fail
     refine HC.out.mono ?_
     rintro e w6 ⟨rfl,h8⟩
     have H8:=ah h8
     clear h8 HC yZ
     go_wp2
     rw[bP.out]
     exact⟨J,by (rw[HR3.out];cases et<;>rfl),iV.out,H8.out.p1.drop⟩
    ·have HF:Hid (rv=false):=ah (by rw[HR2.out,decide_eq_false ht0];rfl)
     have ht1:(te !=0)=true:=by simpa using ht0
     have ht2:(te==0)=false:=by simpa using ht0
     clear ht0
     go_wp2
     rw[bP.out]
     exact⟨J,by (rw[HF.out];try rfl),iV.out,H2.out.p1.drop⟩
end Go.Proofs.YthfmaclnccdcbaaGreatDoor
namespace PA
open Go Go.RowKit
def SF (f:Fm):Prop:=bU f∨∃o n:Int,gI o∧0≤n∧n≤1∧f=.mk o n [] []
theorem SF.zero:SF Fm.zero:=.inr ⟨0,0,⟨by omega,by omega⟩,by omega,by omega,rfl⟩
theorem SF.enc {f:Fm} (h:SF f):f.n64∧(fM f).length≤440:=by
 rcases h with h|⟨o,n,ho,h1,h2,rfl⟩
 ·exact jA h
 ·refine⟨by rw[Fm.n64];exact⟨ho,⟨by omega,by omega⟩,by simp,by rw[Fm.A8];trivial⟩,?_⟩
  have:=oI (o:=o) (n:=n) (i:=[]) (k:=[]) ho ⟨by omega,by omega⟩ (by simp) (by simp)
  simp[dZ,jV] at this
  omega
theorem SF.ok {f:Fm} (h:SF f):QY f:=⟨h.enc.1,by have:=h.enc.2;omega⟩
theorem SF.size {f:Fm} (h:SF f):f.size≤Go.Proofs.YthfmaclnccdcbaaGreatDoor.mW:=by
 rcases h with h|⟨o,n,ho,h1,h2,rfl⟩
 ·have:=(Ba h).sz
  unfold Go.Proofs.YthfmaclnccdcbaaGreatDoor.mW;omega
 ·simp[Fm.size,Fm.sizes,Go.Proofs.YthfmaclnccdcbaaGreatDoor.mW]
theorem QZ {x:Iv} (h:zO x):Go.Proofs.YthfmaclnccdcbaaGreatDoor.Hf x:=by
 obtain⟨h1,h2,h3,h4,h5⟩:=h
 have hh:0≤x.hn∧x.hn≤8∧0≤x.hd∧x.hd≤1:=by
  rcases h5 with ⟨-,e1,e2,-⟩|⟨-,e1,e2,e3⟩
  ·rw[e1,e2];omega
  ·omega
 refine⟨⟨?_,?_,?_,?_⟩,⟨?_,?_,?_,?_⟩⟩<;>simp only[Iv.lw,Iv.up]<;>omega
theorem Em {f:Fm} (h:bU f):(∀g∈f.nodes,∀x∈g.ins,Go.Proofs.YthfmaclnccdcbaaGreatDoor.Hf x)∧f.ins.length≤1∧f.kids.length≤2:=by
 have hc:∀{f:Fm},mQ f→(∀g∈f.nodes,∀x∈g.ins,Go.Proofs.YthfmaclnccdcbaaGreatDoor.Hf x)∧f.ins.length≤1∧f.kids.length≤2:=by
  rintro f ⟨n,-,-,rfl⟩
  simp[Fm.nodes,Fm.bJ,Fm.ins,Fm.kids]
 have hv:∀{f:Fm},yc f→(∀g∈f.nodes,∀x∈g.ins,Go.Proofs.YthfmaclnccdcbaaGreatDoor.Hf x)∧f.ins.length≤1∧f.kids.length≤2:=by
  rintro f ⟨n,x,-,-,hx,rfl⟩
  refine⟨?_,by simp[Fm.ins],by simp[Fm.kids]⟩
  intro g hg y hy
  simp[Fm.nodes,Fm.bJ] at hg
  subst hg
  simp[Fm.ins] at hy
  subst hy
  exact QZ hx
 have two:∀{o:Int} {f g:Fm},(∀a∈f.nodes,∀x∈a.ins,Go.Proofs.YthfmaclnccdcbaaGreatDoor.Hf x)→(∀a∈g.nodes,∀x∈a.ins,Go.Proofs.YthfmaclnccdcbaaGreatDoor.Hf x)→(∀a∈(Fm.mk o 0 [] [f,g]).nodes,∀x∈a.ins,Go.Proofs.YthfmaclnccdcbaaGreatDoor.Hf x)∧(Fm.mk o 0 [] [f,g]).ins.length≤1∧(Fm.mk o 0 [] [f,g]).kids.length≤2:=by
  intro o f g h1 h2
  refine⟨?_,by simp[Fm.ins],by simp[Fm.kids]⟩
  intro a ha
  simp[Fm.nodes,Fm.bJ] at ha
  rcases ha with rfl|ha|ha
  ·intro x hx;simp[Fm.ins] at hx
  ·exact h1 a ha
  ·exact h2 a ha
 have one:∀{o:Int} {f:Fm},(∀a∈f.nodes,∀x∈a.ins,Go.Proofs.YthfmaclnccdcbaaGreatDoor.Hf x)→(∀a∈(Fm.mk o 0 [] [f]).nodes,∀x∈a.ins,Go.Proofs.YthfmaclnccdcbaaGreatDoor.Hf x)∧(Fm.mk o 0 [] [f]).ins.length≤1∧(Fm.mk o 0 [] [f]).kids.length≤2:=by
  intro o f h1
  refine⟨?_,by simp[Fm.ins],by simp[Fm.kids]⟩
  intro a ha
  simp[Fm.nodes,Fm.bJ] at ha
  rcases ha with rfl|ha
  ·intro x hx;simp[Fm.ins] at hx
  ·exact h1 a ha
 cases h with
 | c h=>exact hc h
 | v h=>exact hv h
 | DR h g=>exact two (hc h).1 (hv g).1
 | Oo h g=>exact two (hc h).1 (hv g).1
 | P8 h g=>exact two (hc h).1 (hc g).1
 | P9 h g=>exact two (hc h).1 (one (hc g).1).1
 | part h=>exact one (hc h).1
 | Qa h g=>exact two (hc h).1 (one (hv g).1).1
theorem SF.fmK {f:Fm} (h:SF f):Go.Proofs.YthfmaclnccdcbaaGreatDoor.IL f∧f.ins.length≤1∧f.kids.length≤2:=by
 refine⟨⟨by have:=h.size;unfold Go.Proofs.YthfmaclnccdcbaaGreatDoor.mW at this;unfold Go.Proofs.YthfmaclnccdcbaaGreatDoor.nM;exact this,?_⟩,?_⟩
 ·rcases h with h|⟨o,n,ho,h1,h2,rfl⟩
  ·exact (Em h).1
  ·simp[Fm.nodes,Fm.bJ,Fm.ins]
 ·rcases h with h|⟨o,n,ho,h1,h2,rfl⟩
  ·exact (Em h).2
  ·simp[Fm.ins,Fm.kids]
def V3 (l:List Cl):Prop:=l=[]∨jG l∨∃r:Int,gI r∧l=[⟨[r],Fm.zero⟩]
theorem V3.body {l:List Cl} (h:V3 l):∀c∈l,SF c.body:=by
 rcases h with rfl|h|⟨r,hr,rfl⟩
 ·intro c hc;cases hc
 ·intro c hc
  obtain⟨i,hi,rfl⟩:=List.mem_iff_getElem.1 hc
  exact .inl (h.2.2 i hi).1
 ·intro c hc
  rw[List.mem_singleton.1 hc]
  exact SF.zero
theorem V3.len {l:List Cl} (h:V3 l):l.length≤3:=by
 rcases h with rfl|h|⟨r,hr,rfl⟩
 ·simp
 ·exact h.2.1
 ·simp
theorem V3.ok {l:List Cl} (h:V3 l):(∀c∈l,LQ c)∧(jm l).length≤1500:=by
 rcases h with rfl|h|⟨r,hr,rfl⟩
 ·exact⟨fun c hc=>(by cases hc),NP⟩
 ·exact⟨fun c hc=>(xC h c hc).1,Bc h⟩
 ·have h64:∀x∈[r],-9223372036854775808≤x∧x≤9223372036854775807:=fun x hx=>by rw[List.mem_singleton.1 hx];exact hr
  refine⟨fun c hc=>?_,?_⟩
  ·rw[List.mem_singleton.1 hc]
   exact⟨h64,by simp,SF.zero.enc.1,by have:=SF.zero.enc.2;simp only;omega⟩
  ·unfold jm AQ
   rw[fA]
   have e1:=iR (r:=(([⟨[r],Fm.zero⟩]:List Cl).length:Int)) (by simp) (by simp)
   have e2:=F5 (l:=[r]) (by simp) h64
   have e3:=iF SF.zero.enc.2 (by omega)
   have e4:(List.map tu [⟨[r],Fm.zero⟩]).flatten.length=(lN [r]).length+(encR (fM Fm.zero)).length:=by simp[tu]
   rw[e4]
   simp only[List.length_singleton] at e2
   omega
structure zI (N:Nat) (x:Pa):Prop where
 ns:∀r∈fU x,gI r
 td:∀f∈x.td,SF f
 tn:x.td.length≤2
 tc:V3 x.tc
 cl:V3 x.cl
 en:x.ea.length≤N
 ea:∀e∈x.ea,gI e.file∧gI e.day
 fx:SF x.fx
theorem ShA.sp {x:Pa} (h:ShA x):zI 2 x:=by
 refine⟨fun r hr=>?_,fun f hf=>.inl (h.td f hf),h.tn,h.tc.imp id .inl,h.cl.imp id .inl,h.en,fun e he=>?_,?_⟩
 ·have:=h.ns r hr;exact⟨by omega,by omega⟩
 ·have:=h.ea e he;exact⟨⟨by omega,by omega⟩,by omega,by omega⟩
 ·rcases h.fx with e|e
  ·rw[e];exact SF.zero
  ·exact .inl e
theorem zI.zero:zI 0 Pa.zero:=by
 refine⟨?_,by simp[Pa.zero],by simp[Pa.zero],.inl rfl,.inl rfl,by simp[Pa.zero],by simp[Pa.zero],SF.zero⟩
 intro r hr
 simp[fU,Pa.zero] at hr
 subst hr
 exact⟨by omega,by omega⟩
theorem zI.mono {N M:Nat} {x:Pa} (h:zI N x) (hl:N≤M):zI M x:=⟨h.ns,h.td,h.tn,h.tc,h.cl,by have:=h.en;omega,h.ea,h.fx⟩
theorem zI.szA {N:Nat} {x:Pa} (h:zI N x):SzA x:=⟨fun f hf=>(h.td f hf).size,fun c hc=>(h.tc.body c hc).size,fun c hc=>(h.cl.body c hc).size,h.fx.size⟩
theorem zI.szM {N:Nat} {x:Pa} (h:zI N x):SzM x:=by
 refine⟨fun f hf=>(h.td f hf).fmK.1,fun c hc=>(h.tc.body c hc).fmK.1,fun c hc=>(h.cl.body c hc).fmK.1,h.fx.fmK.1,?_,?_⟩
 ·have h1:=h.ns x.sn (by simp[fU])
  have h2:=h.ns x.sd (by simp[fU])
  exact⟨h1.1,h1.2,h2.1,h2.2⟩
 ·have h1:=h.tn
  have h2:=h.tc.len
  have h3:=h.fx.fmK.2
  omega
theorem zI.enc {N:Nat} {x:Pa} (h:zI N x) (hN:N≤1000):Eh x:=by
 have htd:(Ef x.td).length≤450*x.td.length:=iD (fun f=>encR (jg f)) fun f hf=>iF (lW (h.td f hf).enc.2) (by omega)
 have htn:450*x.td.length≤450*2:=Nat.mul_le_mul_left _ h.tn
 have e1:=iR (r:=(x.td.length:Int)) (by omega) (by have:=h.tn;omega)
 have e2:=iF (jW h.tc.ok.2) (by omega)
 have htx:(qx x.td x.tc).length≤3000:=by
  unfold qx;rw[fA,fA];omega
 have hen:(rJ x.ea).length≤20*x.ea.length:=iD rM fun e he=>by
  have:=h.ea e he
  unfold rM;rw[fA]
  have:=iR this.1.1 this.1.2
  have:=iR (h.ea e he).2.1 (h.ea e he).2.2
  omega
 have abp:20*x.ea.length≤20*N:=Nat.mul_le_mul_left _ h.en
 have e3:=iR (r:=(x.ea.length:Int)) (by omega) (by have:=h.en;omega)
 have hkd:(iQ x).length≤24000:=by
  unfold iQ
  split
  ·rw[fA,fA]
   have:=iF (oH htx) (by omega)
   omega
  ·split
   ·have:=iF (lW h.fx.enc.2) (by omega)
    omega
   ·simp
 have hac:(yC x).length≤1510:=by
  unfold yC
  split
  ·simp
  ·exact iF (jW h.cl.ok.2) (by omega)
 have hn1:=iD PA.encI (B:=10) (l:=fU x) fun r hr=>iR (h.ns r hr).1 (h.ns r hr).2
 have hn2:(fU x).length=11:=rfl
 rw[hn2] at hn1
 refine⟨h.ns,fun f hf=>(h.td f hf).ok,h.tc.ok.1,h.cl.ok.1,fun e he=>h.ea e he,h.fx.ok,by omega,by have:=h.tc.ok.2;omega,by have:=h.cl.ok.2;omega,?_⟩
 unfold O5
 rw[fA,fA]
 omega
theorem jX (x:Pa):(∀r∈fU x,gI r)↔gI x.k∧gI x.d∧gI x.n∧gI x.f∧gI x.o∧gI x.p∧gI x.q∧gI x.u∧gI x.m∧gI x.sn∧gI x.sd:=by
 simp[fU]
theorem zI.oJ {N:Nat} {x:Pa} (h:zI N x) (hw:Int) {b:Int} (hb:gI b):zI (N+2) (oJ x hw b):=by
 have two:gI 2:=⟨by omega,by omega⟩
 obtain⟨n1,n2,n3,n4,n5,n6,n7,n8,n9,n10,n11⟩:=(jX x).1 h.ns
 have hl:x.ea.length≤N+2:=by have:=h.en;omega
 unfold PA.oJ
 by_cases e0:hw=0
 ·rw[if_pos e0];exact⟨(jX _).2 ⟨hb,n2,n3,n4,n5,n6,n7,n8,n9,n10,n11⟩,h.td,h.tn,h.tc,h.cl,hl,h.ea,h.fx⟩
 rw[if_neg e0]
 by_cases e1:hw=1
 ·rw[if_pos e1];exact⟨(jX _).2 ⟨n1,hb,n3,n4,n5,n6,n7,n8,n9,n10,n11⟩,h.td,h.tn,h.tc,h.cl,hl,h.ea,h.fx⟩
 rw[if_neg e1]
 by_cases e2:hw=2
 ·rw[if_pos e2];exact⟨(jX _).2 ⟨n1,n2,hb,n4,n5,n6,n7,n8,n9,n10,n11⟩,h.td,h.tn,h.tc,h.cl,hl,h.ea,h.fx⟩
 rw[if_neg e2]
 by_cases e3:hw=3
 ·rw[if_pos e3];exact⟨(jX _).2 ⟨n1,n2,n3,hb,n5,n6,n7,n8,n9,n10,n11⟩,h.td,h.tn,h.tc,h.cl,hl,h.ea,h.fx⟩
 rw[if_neg e3]
 by_cases e4:hw=4
 ·rw[if_pos e4];exact⟨(jX _).2 ⟨n1,n2,n3,n4,hb,n6,n7,n8,n9,n10,n11⟩,h.td,h.tn,h.tc,h.cl,hl,h.ea,h.fx⟩
 rw[if_neg e4]
 by_cases e5:hw=5
 ·rw[if_pos e5];exact⟨(jX _).2 ⟨n1,n2,n3,n4,n5,hb,n7,n8,n9,n10,n11⟩,h.td,h.tn,h.tc,h.cl,hl,h.ea,h.fx⟩
 rw[if_neg e5]
 by_cases e6:hw=6
 ·rw[if_pos e6];exact⟨(jX _).2 ⟨n1,n2,n3,n4,n5,n6,hb,n8,n9,n10,n11⟩,h.td,h.tn,h.tc,h.cl,hl,h.ea,h.fx⟩
 rw[if_neg e6]
 by_cases e7:hw=7
 ·rw[if_pos e7];exact⟨(jX _).2 ⟨n1,n2,n3,n4,n5,n6,n7,hb,n9,n10,n11⟩,h.td,h.tn,h.tc,h.cl,hl,h.ea,h.fx⟩
 rw[if_neg e7]
 by_cases e8:hw=8
 ·rw[if_pos e8];exact⟨(jX _).2 ⟨n1,n2,n3,n4,n5,n6,n7,n8,hb,n10,n11⟩,h.td,h.tn,h.tc,h.cl,hl,h.ea,h.fx⟩
 rw[if_neg e8]
 by_cases e9:hw=9
 ·rw[if_pos e9];exact⟨(jX _).2 ⟨n1,n2,n3,n4,n5,n6,n7,n8,n9,hb,two⟩,h.td,h.tn,h.tc,h.cl,hl,h.ea,h.fx⟩
 rw[if_neg e9]
 by_cases e10:hw=10
 ·rw[if_pos e10]
  refine⟨h.ns,fun f hf=>?_,by simp,.inl rfl,h.cl,hl,h.ea,h.fx⟩
  rw[List.mem_singleton.1 hf]
  exact .inr ⟨b,0,hb,by omega,by omega,rfl⟩
 rw[if_neg e10]
 by_cases e11:hw=11
 ·rw[if_pos e11];exact⟨h.ns,h.td,h.tn,h.tc,.inr (.inr ⟨b,hb,rfl⟩),hl,h.ea,h.fx⟩
 rw[if_neg e11]
 by_cases e12:hw=12
 ·rw[if_pos e12]
  refine⟨h.ns,h.td,h.tn,h.tc,h.cl,?_,fun e he=>?_,h.fx⟩
  ·have:=h.en
   simp only[fA,List.length_cons,List.length_nil];omega
  ·rcases List.mem_append.1 he with he|he
   ·exact h.ea e he
   ·rcases List.mem_cons.1 he with rfl|he
    ·exact⟨hb,by simp only;omega,by simp only;omega⟩
    ·rw[List.mem_singleton.1 he]
     exact⟨⟨by simp only;omega,by simp only;omega⟩,hb⟩
 rw[if_neg e12]
 exact⟨h.ns,h.td,h.tn,h.tc,h.cl,hl,h.ea,.inr ⟨b,1,hb,by omega,by omega,rfl⟩⟩
end PA
namespace PA
open Go Go.RowKit
theorem Ug {J:Mem} {zl:List Ac} {ps:List Pa} (h:fH (kR J) zl ps) (hm:Made ps) (hn:zl.length≤14):∀(i:Nat) (z:Ac),zl[i]?=some z→∃p,kR J z p∧zI 2 p∧dB p=true∧p.n=4*(i:Int):=by
 intro i z hz
 obtain⟨hi,rfl⟩:=List.getElem?_eq_some_iff.1 hz
 have hl:=h.length
 have hp:i<ps.length:=by omega
 have h1:=h.get i hi hp
 obtain⟨h2,h3,-⟩:=hm i hp
 have hf:yO (ps.take i)≤100:=by
  have:yO (ps.take i)≤(ps.take i).length:=List.length_filter_le _ _
  rw[List.length_take] at this;omega
 have hb:0≤ps[i].n∧ps[i].n≤1000000:=by rw[h3];omega
 exact⟨ps[i],h1,(Jh hf h2 hb).sp,Ji hf h2 hb,h3⟩
end PA
namespace PA
open Go Go.RowKit
def AB (x:Pa):Bool:=aJ x.q 1 4095&&decide (x.q≠x.p)
def FX (n d:Int):Bool:=okR ⟨n,d⟩&&(decide (n≤d)&&decide (0<n))
def pR (x:Pa):Bool:=
 if x.k=0 then OO x
 else if x.k=3∨x.k=15 then fP x.cl
 else if x.k=4 then aJ x.u 0 66&&(decide (x.u≠6)&&(aJ x.q 0 7&&aJ x.m 1 1099511627776))
 else if x.k=5 then aJ x.u 0 1
 else if x.k=6∨x.k=7 then aJ x.u 0 255
 else if x.k=8 then aJ x.u 0 255&&aJ x.m 1 12
 else if x.k=9∨x.k=20 then iP x
 else if x.k=13 then aJ x.u 0 2&&(aJ x.q 0 1&&((decide (x.u=2)&&fP x.cl)||(decide (x.u<2)&&decide (x.cl.length=0))))
 else if x.k=16 then AB x&&FX x.sn x.sd
 else if x.k=17 then AB x&&iP x
 else if x.k=18 then aJ x.u 0 7
 else if x.k=19 then decide (jO x.fx=0)
 else if x.k=21 then aJ x.u 0 18&&aJ x.m 0 1099511627776
 else true
end PA
namespace Go.Proofs.YthfmaclnccdcbaaGreatDoor
open Go.RowKit PA
set_option maxHeartbeats 4000000 in
theorem LK {W w:World} {A:aB} (n d:Int) (hB:Qu ⟨n,d⟩) (h:Sat W w A):
 Calls Tryz.prog 160 #[.agg #[.int .i64 n,.int .i64 d],.agg #[.int .i64 1,.int .i64 1]] w fun e w'=>∃c:Int,e=.returned (.int .i64 c)∧decide (c≤0)=decide (n≤d)∧Sat W w' A:=by
 have h1:=(h.alloc (.cells #[.int .i64 n,.int .i64 d] 26)).alloc (.cells #[.int .i64 1,.int .i64 1] 26)
 rw[World.size_alloc] at h1
 obtain⟨B,hBb⟩:=aC (w.heap.size)
 obtain⟨w1,hw1⟩:=aC ((w.alloc (.cells #[.int .i64 n,.int .i64 d] 26)).alloc (.cells #[.int .i64 1,.int .i64 1] 26))
 rw[←hBb,←hw1] at h1
 have HB:=ah (And.intro hBb hw1)
 have h2:=h1.drew
 obtain⟨wd,hwd⟩:=aC (w1.drew)
 rw[←hwd] at h2
 obtain⟨k0,k1,-,-⟩:=jL h2
 obtain⟨j0,j1,-,-⟩:=jL h2.p1
 have HF:=ah h2.drop.drop
 have nJ:=ah hwd
 have e1:IntKind.i64.wrap (n*1)=n:=by rw[Int.mul_one];exact IntWalk.i64_in _ ⟨hB.n1,hB.n2⟩
 have e2:IntKind.i64.wrap (1*d)=d:=by rw[Int.one_mul];exact IntWalk.i64_in _ ⟨hB.d1,hB.d2⟩
 have e3:IntKind.i64.wrap n=n:=IntWalk.i64_in _ ⟨hB.n1,hB.n2⟩
 have e4:IntKind.i64.wrap d=d:=IntWalk.i64_in _ ⟨hB.d1,hB.d2⟩
 clear h h1 hBb hw1 h2 hwd hB
 go_enter Tryz.func160,Tryz.ntmps160
 go_upto_region 1 with (fail)
 rw[←HB.out.1,←HB.out.2]
 refine aG rfl (fun _=>True) [(0,.p),(1,.t),(2,.p),(3,.t),(4,.p),(5,.p),(6,.t),(7,.p),(8,.t),(9,.p),(10,.p),(11,.p)] (by kernel_rfl) ?_
 rw[←nJ.out]
 have hS0:True:=trivial
 (repeat ((first|(refine iK (v:=?_) rfl rfl (fun w'=>?_) ?_;rotate_left;(go_simp;with_reducible rfl))|(refine iL (v:=?_) rfl rfl hS0 (fun w' hS=>?_) ?_;rotate_left;((try dsimp only at hS);go_simp;with_reducible rfl))|(refine iM (v:=?_) rfl rfl ?_ ?_;rotate_left;(go_simp;with_reducible rfl))|(refine dF rfl rfl ?_)|(refine dG rfl rfl hS0 ?_)|(refine dH rfl rfl ?_));simp only[Act.put,lsA,lsB,bV]))
 refine eF ?_
 clear k0 k1 j0 j1
 try simp only[e1,e2,e3,e4]
 rcases Int.lt_trichotomy n d with hlt|rfl|hgt
 ·go_wp2
  go_ret
  exact⟨-1,rfl,by first|(rw[show decide ((-1:Int)≤0)=true from rfl,decide_eq_true (by omega)];done)|(simp;omega),HF.out⟩
 ·go_wp2
  go_ret
  exact⟨0,rfl,by simp,HF.out⟩
 ·have h3:¬n<d:=by omega
  go_wp2
  go_ret
  exact⟨1,rfl,by first|(rw[show decide ((1:Int)≤0)=false from rfl,decide_eq_false (by omega)];done)|(simp;omega),HF.out⟩
set_option maxHeartbeats 4000000 in
theorem OQ {W w:World} {A:aB} (n d:Int) (hB:Qu ⟨n,d⟩) (h:Sat W w A):
 Calls Tryz.prog 117 #[.agg #[.int .i64 n,.int .i64 d],.agg #[.int .i64 1,.int .i64 1]] w fun e w'=>∃c r:Int,e=.returned (.tuple #[.int .i64 c,.int .i64 r])∧((r==0)&&decide (c≤0))=(okR ⟨n,d⟩&&decide (n≤d))∧Sat W w' A:=by
 have h1:=(h.alloc (.cells #[.int .i64 n,.int .i64 d] 26)).alloc (.cells #[.int .i64 1,.int .i64 1] 26)
 rw[World.size_alloc] at h1
 obtain⟨B,hBb⟩:=aC (w.heap.size)
 obtain⟨w1,hw1⟩:=aC ((w.alloc (.cells #[.int .i64 n,.int .i64 d] 26)).alloc (.cells #[.int .i64 1,.int .i64 1] 26))
 rw[←hBb,←hw1] at h1
 have HB:=ah (And.intro hBb hw1)
 obtain⟨k0,k1,-,-⟩:=jL h1
 obtain⟨j0,j1,-,-⟩:=jL h1.p1
 have hv:=h1.alloc (.cells #[.int .i64 n,.int .i64 d,.int .i64 1,.int .i64 1] 26)
 have hvs:=Jb ⟨n,d⟩ ⟨1,1⟩ hB ⟨by decide,by decide,by decide,by decide⟩ _ hv
 have hif:(if okR ⟨n,d⟩=true∧okR ⟨1,1⟩=true then (0:Int) else 1)=if okR ⟨n,d⟩=true then 0 else 1:=by
  have:okR ⟨1,1⟩=true:=ru 1 1 (by omega) (by omega) (by decide) (by decide)
  rw[this];simp
 rw[hif] at hvs
 have XO:=ah (fun w' (A':aB) (h':Sat W w' A')=>LK n d hB h')
 obtain⟨ok,hok⟩:=aC (okR ⟨n,d⟩)
 rw[←hok] at hvs ⊢
 have Ho:=ah hvs
 clear h h1 hBb hw1 hv hvs hif hB hok
 go_enter Tryz.func117,Tryz.ntmps117
 go_upto_region 1 with (fail)
 rw[←HB.out.1,←HB.out.2]
 go_wp2_with fail
 refine Ho.out.mono ?_
 rintro e w3 ⟨rfl,h3⟩
 obtain⟨k0',k1',-,-⟩:=jL h3
 obtain⟨j0',j1',-,-⟩:=jL h3.p1
 have H3:=ah h3
 clear k0 k1 j0 j1 h3 Ho
 cases ok with
 | false=>
  go_wp2
  exact bodyPost_ret (v:=.tuple #[.int .i64 0,.int .i64 1]) (by simp[results,Tryz.results117,go_sem]) rfl ⟨0,1,rfl,rfl,H3.out.drop.drop⟩
 | true=>
  go_wp2_with fail
  refine (XO.out _ _ H3.out).mono ?_
  rintro e w4 ⟨c,rfl,hc,h4⟩
  have H4:=ah (And.intro hc h4)
  clear hc h4 H3 XO k0' k1' j0' j1'
  go_wp2
  exact bodyPost_ret (v:=.tuple #[.int .i64 c,.int .i64 0]) (by simp[results,Tryz.results117,go_sem]) rfl ⟨c,0,rfl,by simpa using H4.out.1,H4.out.2.drop.drop⟩
attribute [local go_sem ↓] dw dM bG
theorem rE {W w:World} {A:aB} (B:Nat) (z:Ac) (h:Sat W w (sep (blk B (.cells z.cells.toArray 36 (0,0))) A)):
 Calls Tryz.prog 115 #[.pointer (some ⟨B,0,none⟩)] w fun e w'=>e=.returned (.bool (aJ z.u z.d 131072))∧w=w':=by
 have k7:=(ay h 7 _ rfl).1
 have k1:=(ay h 1 _ rfl).1
 have C:=ah (fun w'=>aZ z.u z.d 131072 w')
 clear h
 go_enter Tryz.func115,Tryz.ntmps115
 go_wp2_with fail
 refine (C.out _).mono ?_
 rintro e w2 ⟨rfl,rfl⟩
 go_wp2
 go_ret
 exact⟨rfl,rfl⟩
theorem sZ {W w:World} {A:aB} (B:Nat) (z:Ac) (h:Sat W w (sep (blk B (.cells z.cells.toArray 36 (0,0))) A)):
 Calls Tryz.prog 114 #[.pointer (some ⟨B,0,none⟩)] w fun e w'=>e=.returned (.bool (aJ z.q 1 4095&&decide (z.q≠z.p)))∧w=w':=by
 have k6:=(ay h 6 _ rfl).1
 have k5:=(ay h 5 _ rfl).1
 obtain⟨b1,hb1⟩:=aC (aJ z.q 1 4095)
 have C:Hid (∀w',Calls Tryz.prog 60 #[.int .i64 z.q,.int .i64 1,.int .i64 4095] w' fun e w''=>e=.returned (.bool b1)∧w'=w''):=ah fun w'=>by rw[hb1];exact aZ _ _ _ w'
 rw[←hb1]
 obtain⟨b2,hb2⟩:=aC ((z.q !=z.p))
 have e2:decide (z.q≠z.p)=b2:=by
  rw[hb2]
  by_cases h:z.q=z.p
  ·rw[h];simp
  ·rw[decide_eq_true h];simpa using h
 have hb2':(z.q !=z.p)=b2:=hb2.symm
 rw[e2]
 clear h hb1 hb2 e2
 go_enter Tryz.func114,Tryz.ntmps114
 go_wp2_with fail
 refine (C.out _).mono ?_
 rintro e w2 ⟨rfl,rfl⟩
 cases b1 with
 | false=>
  go_wp2
  go_ret
  exact⟨rfl,rfl⟩
 | true=>
  cases b2 with
  | false=>
   go_wp2
   go_ret
   exact⟨rfl,rfl⟩
  | true=>
   go_wp2
   go_ret
   exact⟨rfl,rfl⟩
theorem pU {W w:World} {A:aB} {I:Mem} (B:Nat) (z:Ac) (l:List Cl) (hv:(kV.slice 5).rel I [z.cl.v] l) (hK:∀c∈l,IL c.body) (h:Sat W w (sep (kn I) (sep (blk B (.cells z.cells.toArray 36 (0,0))) A))):
 Calls Tryz.prog 112 #[.pointer (some ⟨B,0,none⟩)] w fun e w'=>e=.returned (.bool (fP l))∧Sat W w' (sep (kn I) (sep (blk B (.cells z.cells.toArray 36 (0,0))) A)):=by
 have hn:=(aI hv).1
 have hn63:=(aI hv).2.2
 have k13:=(ay h.p1 13 _ rfl).1
 have hcv:=kY z.cl.a z.cl.n z.cl.c l hv hK h
 obtain⟨nc,hnc⟩:=aC (z.cl.n)
 obtain⟨ce,hce⟩:=aC (qF l)
 have Xv:w.cell? ⟨B,13,none⟩=some (.slice z.cl.a nc z.cl.c):=by rw[hnc];exact k13
 rw[←hce,←hnc] at hcv
 rw[←hnc] at hn hn63
 have S9:=ah hcv
 have H:=ah h
 obtain⟨rv,dJ⟩:=aC (fP l)
 have bI:Hid (rv=(decide (0<nc)&&decide (ce=0))):=ah (by rw[dJ,hn,hce];rfl)
 rw[←dJ]
 clear hv h hn k13 hcv hnc hce dJ
 by_cases n0:0<nc
 ·have n0z:(0:Int)<(nc:Int):=by omega
  have HR2:Hid (rv=decide (ce=0)):=ah (by rw[bI.out,decide_eq_true n0];rfl)
  clear n0
  go_enter Tryz.func112,Tryz.ntmps112
  go_wp2_with fail
  refine S9.out.mono ?_
  rintro e w2 ⟨rfl,h2⟩
  have H2:=ah h2
  clear h2 H S9 Xv
  by_cases c0:ce=0
  ·subst c0
   go_wp2
   go_ret
   exact⟨by (rw[HR2.out];try rfl),H2.out⟩
  ·have c1:(ce==0)=false:=by simpa using c0
   have HF:Hid (rv=false):=ah (by rw[HR2.out,decide_eq_false c0])
   clear c0
   go_wp2
   go_ret
   exact⟨by (rw[HF.out];try rfl),H2.out⟩
 ·have n0z:¬(0:Int)<(nc:Int):=by omega
  have HF:Hid (rv=false):=ah (by rw[bI.out,decide_eq_false n0];rfl)
  clear n0
  go_enter Tryz.func112,Tryz.ntmps112
  go_wp2
  go_ret
  exact⟨by (rw[HF.out];try rfl),H.out⟩
set_option maxRecDepth 100000 in
set_option maxHeartbeats 32000000 in
theorem Di {W w:World} {A:aB} {I:Mem} (z:Ac) (x:Pa) (hA:kR I z x) (hz:SzM x) (hk0:0≤z.k) (hk1:z.k≤21) (h:Sat W w (sep (kn I) A)):
 Calls Tryz.prog 63 #[.agg z.cells.toArray] w fun e w'=>∃J,e=.returned (.bool (pR x))∧Mem.le I J∧Sat W w' (sep (kn J) A):=by
 have h1:=(h.alloc (.cells z.cells.toArray 36)).p1
 obtain⟨B,hB⟩:=aC (w.heap.size)
 obtain⟨w1,hw1⟩:=aC (w.alloc (.cells z.cells.toArray 36))
 rw[←hB,←hw1] at h1
 have HB:=ah (And.intro hB hw1)
 obtain⟨rv,dJ⟩:=aC (pR x)
 obtain⟨Po,fK⟩:∃P:Ending→World→Prop,P=fun e w'=>∃J,e=.returned (.bool rv)∧Mem.le I J∧Sat W w' (sep (kn J) A):=⟨_,rfl⟩
 rw[←dJ,←fK]
 have bP:=ah fK
 have hmf:∀(fn:Fn) (first cap:Array Value) (w:World),(Instr.makeFunc fn first cap).run Tryz.prog w=.ok (.func fn first cap) w:=fun _ _ _ _=>rfl
 have HX:=ah (And.intro hA hz)
 have H1:=ah h1
 have jk:rv=pR x:=dJ
 unfold pR at jk
 rw[←hA.k,←hA.u,←hA.q,←hA.m] at jk
 have bI:=ah jk
 have kk:=(ay h1.p1 0 _ rfl).1
 have k5:=(ay h1.p1 5 _ rfl).1
 have k6:=(ay h1.p1 6 _ rfl).1
 have k7:=(ay h1.p1 7 _ rfl).1
 have k8:=(ay h1.p1 8 _ rfl).1
 obtain⟨kz,hkz⟩:=aC (z.k)
 rw[←hkz] at hk0 hk1 bI
 have k0:w1.cell? ⟨B,0,none⟩=some (.int .i64 kz):=by rw[hkz];exact kk
 have HKZ:=ah hkz
 clear hA hz h h1 hB hw1 dJ fK jk kk hkz
 obtain rfl|rfl|rfl|rfl|rfl|rfl|rfl|rfl|rfl|rfl|rfl|rfl|rfl|rfl|rfl|rfl|rfl|rfl|rfl|rfl|rfl|rfl:kz=0∨kz=1∨kz=2∨kz=3∨kz=4∨kz=5∨kz=6∨kz=7∨kz=8∨kz=9∨kz=10∨kz=11∨kz=12∨kz=13∨kz=14∨kz=15∨kz=16∨kz=17∨kz=18∨kz=19∨kz=20∨kz=21:=by omega
 ·as_aux_lemma=>
  have XR:=ah (FW z x HX.out.1 HX.out.2 H1.out)
  have hld:=gq H1.out.p1
  obtain⟨bl,hbl⟩:=aC (OO x)
  have HF:Hid (rv=bl):=ah (by rw[bI.out,hbl];rfl)
  rw[←hbl] at XR
  clear hbl
  go_enter Tryz.func63,Tryz.ntmps63
  go_upto_region 1 with (fail)
  rw[←HB.out.1,←HB.out.2]
  go_wp2_with fail
  refine XR.out.mono ?_
  rintro e w2 ⟨J,rfl,hle,h2⟩
  have H2:=ah h2
  have HL:=ah hle
  clear h2 hle XR H1 k0 k5 k6 k7 k8 hld
  go_wp2
  rw[bP.out]
  exact⟨J,by (rw[HF.out];try rfl),HL.out,H2.out.p1.drop⟩
 ·as_aux_lemma=>
  have HF:Hid (rv=true):=ah (by rw[bI.out];rfl)
  go_enter Tryz.func63,Tryz.ntmps63
  go_upto_region 1 with (fail)
  rw[←HB.out.1,←HB.out.2]
  go_wp2
  rw[bP.out]
  exact⟨I,by (rw[HF.out];try rfl),Mem.le_refl _,H1.out.p1.drop⟩
 ·as_aux_lemma=>
  have HF:Hid (rv=true):=ah (by rw[bI.out];rfl)
  go_enter Tryz.func63,Tryz.ntmps63
  go_upto_region 1 with (fail)
  rw[←HB.out.1,←HB.out.2]
  go_wp2
  rw[bP.out]
  exact⟨I,by (rw[HF.out];try rfl),Mem.le_refl _,H1.out.p1.drop⟩
 ·as_aux_lemma=>
  have QS:=ah (pU B z x.cl HX.out.1.cl HX.out.2.cl H1.out)
  obtain⟨bl,hbl⟩:=aC (fP x.cl)
  have HF:Hid (rv=bl):=ah (by rw[bI.out,hbl];rfl)
  rw[←hbl] at QS
  clear hbl
  go_enter Tryz.func63,Tryz.ntmps63
  go_upto_region 1 with (fail)
  rw[←HB.out.1,←HB.out.2]
  go_wp2_with fail
  refine QS.out.mono ?_
  rintro e w2 ⟨rfl,h2⟩
  have H2:=ah h2
  clear h2 QS H1 k0 k5 k6 k7 k8
  go_wp2
  rw[bP.out]
  exact⟨I,by (rw[HF.out];try rfl),Mem.le_refl _,H2.out.p1.drop⟩
 ·as_aux_lemma=>
  obtain⟨b0,hb0⟩:=aC (aJ z.u 0 66)
  have C0:Hid (∀w',Calls Tryz.prog 60 #[.int .i64 z.u,.int .i64 0,.int .i64 66] w' fun e w''=>e=.returned (.bool b0)∧w'=w''):=ah fun w'=>by rw[hb0];exact aZ _ _ _ w'
  obtain⟨b1,hb1⟩:=aC ((z.u !=6))
  have g1:decide (z.u≠6)=b1:=by
   rw[hb1]
   by_cases h:z.u=6
   ·rw[h];simp
   ·rw[decide_eq_true h];simpa using h
  have hb1':(z.u !=6)=b1:=hb1.symm
  obtain⟨b2,hb2⟩:=aC (aJ z.q 0 7)
  have C2:Hid (∀w',Calls Tryz.prog 60 #[.int .i64 z.q,.int .i64 0,.int .i64 7] w' fun e w''=>e=.returned (.bool b2)∧w'=w''):=ah fun w'=>by rw[hb2];exact aZ _ _ _ w'
  obtain⟨b3,hb3⟩:=aC (aJ z.m 1 1099511627776)
  have C3:Hid (∀w',Calls Tryz.prog 60 #[.int .i64 z.m,.int .i64 1,.int .i64 1099511627776] w' fun e w''=>e=.returned (.bool b3)∧w'=w''):=ah fun w'=>by rw[hb3];exact aZ _ _ _ w'
  have HR:Hid (rv=(b0&&(b1&&(b2&&b3)))):=ah (by
   have h0:rv=(aJ z.u 0 66&&(decide (z.u≠6)&&(aJ z.q 0 7&&aJ z.m 1 1099511627776))):=by rw[bI.out];rfl
   rw[h0,←hb0,g1,←hb2,←hb3])
  clear hb0 hb1 hb2 hb3 g1
  go_enter Tryz.func63,Tryz.ntmps63
  go_upto_region 1 with (fail)
  rw[←HB.out.1,←HB.out.2]
  go_wp2_with fail
  refine (C0.out _).mono ?_
  rintro e w2 ⟨rfl,rfl⟩
  cases b0 with
  | false=>
   have HF:Hid (rv=false):=ah (by rw[HR.out];rfl)
   go_wp2
   rw[bP.out]
   exact⟨I,by (rw[HF.out];try rfl),Mem.le_refl _,H1.out.p1.drop⟩
  | true=>
   cases b1 with
   | false=>
    have HF:Hid (rv=false):=ah (by rw[HR.out];rfl)
    go_wp2
    rw[bP.out]
    exact⟨I,by (rw[HF.out];try rfl),Mem.le_refl _,H1.out.p1.drop⟩
   | true=>
    go_wp2_with fail
    refine (C2.out _).mono ?_
    rintro e w2 ⟨rfl,rfl⟩
    cases b2 with
    | false=>
     have HF:Hid (rv=false):=ah (by rw[HR.out];rfl)
     go_wp2
     rw[bP.out]
     exact⟨I,by (rw[HF.out];try rfl),Mem.le_refl _,H1.out.p1.drop⟩
    | true=>
     go_wp2_with fail
     refine (C3.out _).mono ?_
     rintro e w2 ⟨rfl,rfl⟩
     have HF:Hid (rv=b3):=ah (by rw[HR.out];try (cases b3<;>rfl))
     go_wp2
     rw[bP.out]
     exact⟨I,by (rw[HF.out];try rfl),Mem.le_refl _,H1.out.p1.drop⟩
 ·as_aux_lemma=>
  obtain⟨b0,hb0⟩:=aC (aJ z.u 0 1)
  have C0:Hid (∀w',Calls Tryz.prog 60 #[.int .i64 z.u,.int .i64 0,.int .i64 1] w' fun e w''=>e=.returned (.bool b0)∧w'=w''):=ah fun w'=>by rw[hb0];exact aZ _ _ _ w'
  have HR:Hid (rv=(b0)):=ah (by
   have h0:rv=(aJ z.u 0 1):=by rw[bI.out];rfl
   rw[h0,←hb0])
  clear hb0
  go_enter Tryz.func63,Tryz.ntmps63
  go_upto_region 1 with (fail)
  rw[←HB.out.1,←HB.out.2]
  go_wp2_with fail
  refine (C0.out _).mono ?_
  rintro e w2 ⟨rfl,rfl⟩
  have HF:Hid (rv=b0):=ah (by rw[HR.out];try (cases b0<;>rfl))
  go_wp2
  rw[bP.out]
  exact⟨I,by (rw[HF.out];try rfl),Mem.le_refl _,H1.out.p1.drop⟩
 ·as_aux_lemma=>
  obtain⟨b0,hb0⟩:=aC (aJ z.u 0 255)
  have C0:Hid (∀w',Calls Tryz.prog 60 #[.int .i64 z.u,.int .i64 0,.int .i64 255] w' fun e w''=>e=.returned (.bool b0)∧w'=w''):=ah fun w'=>by rw[hb0];exact aZ _ _ _ w'
  have HR:Hid (rv=(b0)):=ah (by
   have h0:rv=(aJ z.u 0 255):=by rw[bI.out];rfl
   rw[h0,←hb0])
  clear hb0
  go_enter Tryz.func63,Tryz.ntmps63
  go_upto_region 1 with (fail)
  rw[←HB.out.1,←HB.out.2]
  go_wp2_with fail
  refine (C0.out _).mono ?_
  rintro e w2 ⟨rfl,rfl⟩
  have HF:Hid (rv=b0):=ah (by rw[HR.out];try (cases b0<;>rfl))
  go_wp2
  rw[bP.out]
  exact⟨I,by (rw[HF.out];try rfl),Mem.le_refl _,H1.out.p1.drop⟩
 ·as_aux_lemma=>
  obtain⟨b0,hb0⟩:=aC (aJ z.u 0 255)
  have C0:Hid (∀w',Calls Tryz.prog 60 #[.int .i64 z.u,.int .i64 0,.int .i64 255] w' fun e w''=>e=.returned (.bool b0)∧w'=w''):=ah fun w'=>by rw[hb0];exact aZ _ _ _ w'
  have HR:Hid (rv=(b0)):=ah (by
   have h0:rv=(aJ z.u 0 255):=by rw[bI.out];rfl
   rw[h0,←hb0])
  clear hb0
  go_enter Tryz.func63,Tryz.ntmps63
  go_upto_region 1 with (fail)
  rw[←HB.out.1,←HB.out.2]
  go_wp2_with fail
  refine (C0.out _).mono ?_
  rintro e w2 ⟨rfl,rfl⟩
  have HF:Hid (rv=b0):=ah (by rw[HR.out];try (cases b0<;>rfl))
  go_wp2
  rw[bP.out]
  exact⟨I,by (rw[HF.out];try rfl),Mem.le_refl _,H1.out.p1.drop⟩
 ·as_aux_lemma=>
  obtain⟨b0,hb0⟩:=aC (aJ z.u 0 255)
  have C0:Hid (∀w',Calls Tryz.prog 60 #[.int .i64 z.u,.int .i64 0,.int .i64 255] w' fun e w''=>e=.returned (.bool b0)∧w'=w''):=ah fun w'=>by rw[hb0];exact aZ _ _ _ w'
  obtain⟨b1,hb1⟩:=aC (aJ z.m 1 12)
  have C1:Hid (∀w',Calls Tryz.prog 60 #[.int .i64 z.m,.int .i64 1,.int .i64 12] w' fun e w''=>e=.returned (.bool b1)∧w'=w''):=ah fun w'=>by rw[hb1];exact aZ _ _ _ w'
  have HR:Hid (rv=(b0&&b1)):=ah (by
   have h0:rv=(aJ z.u 0 255&&aJ z.m 1 12):=by rw[bI.out];rfl
   rw[h0,←hb0,←hb1])
  clear hb0 hb1
  go_enter Tryz.func63,Tryz.ntmps63
  go_upto_region 1 with (fail)
  rw[←HB.out.1,←HB.out.2]
  go_wp2_with fail
  refine (C0.out _).mono ?_
  rintro e w2 ⟨rfl,rfl⟩
  cases b0 with
  | false=>
   have HF:Hid (rv=false):=ah (by rw[HR.out];rfl)
   go_wp2
   rw[bP.out]
   exact⟨I,by (rw[HF.out];try rfl),Mem.le_refl _,H1.out.p1.drop⟩
  | true=>
   go_wp2_with fail
   refine (C1.out _).mono ?_
   rintro e w2 ⟨rfl,rfl⟩
   have HF:Hid (rv=b1):=ah (by rw[HR.out];try (cases b1<;>rfl))
   go_wp2
   rw[bP.out]
   exact⟨I,by (rw[HF.out];try rfl),Mem.le_refl _,H1.out.p1.drop⟩
 ·as_aux_lemma=>
  have VX:=ah (rE B z H1.out.p1)
  obtain⟨bl,hbl⟩:=aC (aJ z.u z.d 131072)
  have HF:Hid (rv=bl):=ah (by
   have h0:rv=iP x:=by rw[bI.out];rfl
   rw[h0,hbl];unfold iP;rw[HX.out.1.u,HX.out.1.d])
  rw[←hbl] at VX
  clear hbl
  go_enter Tryz.func63,Tryz.ntmps63
  go_upto_region 1 with (fail)
  rw[←HB.out.1,←HB.out.2]
  go_wp2_with fail
  refine VX.out.mono ?_
  rintro e w2 ⟨rfl,rfl⟩
  go_wp2
  rw[bP.out]
  exact⟨I,by (rw[HF.out];try rfl),Mem.le_refl _,H1.out.p1.drop⟩
 ·as_aux_lemma=>
  have HF:Hid (rv=true):=ah (by rw[bI.out];rfl)
  go_enter Tryz.func63,Tryz.ntmps63
  go_upto_region 1 with (fail)
  rw[←HB.out.1,←HB.out.2]
  go_wp2
  rw[bP.out]
  exact⟨I,by (rw[HF.out];try rfl),Mem.le_refl _,H1.out.p1.drop⟩
 ·as_aux_lemma=>
  have HF:Hid (rv=true):=ah (by rw[bI.out];rfl)
  go_enter Tryz.func63,Tryz.ntmps63
  go_upto_region 1 with (fail)
  rw[←HB.out.1,←HB.out.2]
  go_wp2
  rw[bP.out]
  exact⟨I,by (rw[HF.out];try rfl),Mem.le_refl _,H1.out.p1.drop⟩
 ·as_aux_lemma=>
  have HF:Hid (rv=true):=ah (by rw[bI.out];rfl)
  go_enter Tryz.func63,Tryz.ntmps63
  go_upto_region 1 with (fail)
  rw[←HB.out.1,←HB.out.2]
  go_wp2
  rw[bP.out]
  exact⟨I,by (rw[HF.out];try rfl),Mem.le_refl _,H1.out.p1.drop⟩
 ·as_aux_lemma=>
  have QS:=ah (pU B z x.cl HX.out.1.cl HX.out.2.cl H1.out)
  obtain⟨bl,hbl⟩:=aC (fP x.cl)
  obtain⟨b0,hb0⟩:=aC (aJ z.u 0 2)
  obtain⟨b1,hb1⟩:=aC (aJ z.q 0 1)
  have C0:Hid (∀w',Calls Tryz.prog 60 #[.int .i64 z.u,.int .i64 0,.int .i64 2] w' fun e w''=>e=.returned (.bool b0)∧w'=w''):=ah fun w'=>by rw[hb0];exact aZ _ _ _ w'
  have C1:Hid (∀w',Calls Tryz.prog 60 #[.int .i64 z.q,.int .i64 0,.int .i64 1] w' fun e w''=>e=.returned (.bool b1)∧w'=w''):=ah fun w'=>by rw[hb1];exact aZ _ _ _ w'
  have k13:=(ay H1.out.p1 13 _ rfl).1
  obtain⟨nc,hnc⟩:=aC (z.cl.n)
  have Xv:w1.cell? ⟨B,13,none⟩=some (.slice z.cl.a nc z.cl.c):=by rw[hnc];exact k13
  have hn63:(nc:Int)≤9223372036854775807:=by rw[hnc];exact (aI HX.out.1.cl).2.2
  have HR:Hid (rv=(b0&&(b1&&((decide (z.u=2)&&bl)||(decide (z.u<2)&&decide (nc=0)))))):=ah (by
   have h0:rv=(aJ z.u 0 2&&(aJ z.q 0 1&&((decide (z.u=2)&&fP x.cl)||(decide (z.u<2)&&decide (x.cl.length=0))))):=by rw[bI.out];rfl
   rw[h0,hb0,hb1,hbl,hnc,(aI HX.out.1.cl).1])
  rw[←hbl] at QS
  clear hbl hb0 hb1 hnc k13
  go_enter Tryz.func63,Tryz.ntmps63
  go_upto_region 1 with (fail)
  rw[←HB.out.1,←HB.out.2]
  go_wp2_with fail
  refine (C0.out _).mono ?_
  rintro e w2 ⟨rfl,rfl⟩
  cases b0 with
  | false=>
   have HF:Hid (rv=false):=ah (by rw[HR.out];rfl)
   go_wp2
   rw[bP.out]
   exact⟨I,by (rw[HF.out];try rfl),Mem.le_refl _,H1.out.p1.drop⟩
  | true=>
   go_wp2_with fail
   refine (C1.out _).mono ?_
   rintro e w2 ⟨rfl,rfl⟩
   cases b1 with
   | false=>
    have HF:Hid (rv=false):=ah (by rw[HR.out];rfl)
    go_wp2
    rw[bP.out]
    exact⟨I,by (rw[HF.out];try rfl),Mem.le_refl _,H1.out.p1.drop⟩
   | true=>
    by_cases u2:z.u=2
    ·have u2b:(z.u==2)=true:=by simpa using u2
     have u2l:¬z.u<2:=by omega
     have HR2:Hid (rv=bl):=ah (by rw[HR.out,decide_eq_true u2,decide_eq_false u2l];cases bl<;>rfl)
     clear u2
     go_wp2_with fail
     refine QS.out.mono ?_
     rintro e w2 ⟨rfl,h2⟩
     have H2:=ah h2
     clear h2 QS H1 k0 k5 k6 k7 k8 Xv
     have k7:=(ay H2.out.p1 7 _ rfl).1
     cases bl with
     | false=>
      have HF:Hid (rv=false):=ah HR2.out
      go_wp2
      rw[bP.out]
      exact⟨I,by (rw[HF.out];try rfl),Mem.le_refl _,H2.out.p1.drop⟩
     | true=>
      have HF:Hid (rv=true):=ah HR2.out
      go_wp2
      rw[bP.out]
      exact⟨I,by (rw[HF.out];try rfl),Mem.le_refl _,H2.out.p1.drop⟩
    ·have u2b:(z.u==2)=false:=by simpa using u2
     by_cases ul:z.u<2
     ·by_cases n0:nc=0
      ·subst n0
       have HF:Hid (rv=true):=ah (by rw[HR.out,decide_eq_true ul];cases decide (z.u=2)<;>cases bl<;>rfl)
       clear u2
       go_wp2
       rw[bP.out]
       exact⟨I,by (rw[HF.out];try rfl),Mem.le_refl _,H1.out.p1.drop⟩
      ·have n0b:((nc:Int)==0)=false:=by simp;omega
       have HF:Hid (rv=false):=ah (by rw[HR.out,decide_eq_false u2,decide_eq_false n0];simp)
       clear u2 n0
       go_wp2
       rw[bP.out]
       exact⟨I,by (rw[HF.out];try rfl),Mem.le_refl _,H1.out.p1.drop⟩
     ·have HF:Hid (rv=false):=ah (by rw[HR.out,decide_eq_false u2,decide_eq_false ul];rfl)
      clear u2
      go_wp2
      rw[bP.out]
      exact⟨I,by (rw[HF.out];try rfl),Mem.le_refl _,H1.out.p1.drop⟩
 ·as_aux_lemma=>
  have HF:Hid (rv=true):=ah (by rw[bI.out];rfl)
  go_enter Tryz.func63,Tryz.ntmps63
  go_upto_region 1 with (fail)
  rw[←HB.out.1,←HB.out.2]
  go_wp2
  rw[bP.out]
  exact⟨I,by (rw[HF.out];try rfl),Mem.le_refl _,H1.out.p1.drop⟩
 ·as_aux_lemma=>
  have QS:=ah (pU B z x.cl HX.out.1.cl HX.out.2.cl H1.out)
  obtain⟨bl,hbl⟩:=aC (fP x.cl)
  have HF:Hid (rv=bl):=ah (by rw[bI.out,hbl];rfl)
  rw[←hbl] at QS
  clear hbl
  go_enter Tryz.func63,Tryz.ntmps63
  go_upto_region 1 with (fail)
  rw[←HB.out.1,←HB.out.2]
  go_wp2_with fail
  refine QS.out.mono ?_
  rintro e w2 ⟨rfl,h2⟩
  have H2:=ah h2
  clear h2 QS H1 k0 k5 k6 k7 k8
  go_wp2
  rw[bP.out]
  exact⟨I,by (rw[HF.out];try rfl),Mem.le_refl _,H2.out.p1.drop⟩
 ·as_aux_lemma=>
  have Kw:=ah (fun w' A' (h':Sat W w' (sep (blk B (.cells z.cells.toArray 36 (0,0))) A'))=>sZ B z h')
  have k9:=(ay H1.out.p1 9 _ rfl).1
  have k10:=(ay H1.out.p1 10 _ rfl).1
  have HSH:=ah (OQ z.sn z.sd (by rw[HX.out.1.sn,HX.out.1.sd];exact HX.out.2.sh) H1.out.p1)
  obtain⟨bp,hbp⟩:=aC ((aJ z.q 1 4095&&decide (z.q≠z.p)))
  have HR:Hid (rv=(bp&&((okR ⟨z.sn,z.sd⟩&&decide (z.sn≤z.sd))&&decide (0<z.sn)))):=ah (by
   have h0:rv=(AB x&&FX x.sn x.sd):=by rw[bI.out];rfl
   rw[h0,hbp];unfold FX AB;rw[HX.out.1.q,HX.out.1.p,HX.out.1.sn,HX.out.1.sd];simp only[Bool.and_assoc])
  rw[←hbp] at Kw
  clear hbp
  go_enter Tryz.func63,Tryz.ntmps63
  go_upto_region 1 with (fail)
  rw[←HB.out.1,←HB.out.2]
  go_wp2_with fail
  refine HSH.out.mono ?_
  rintro e w2 ⟨c,r,rfl,hcr,h2⟩
  have H2:=ah h2
  have HC:=ah hcr
  clear h2 hcr HSH H1 k0 k5 k6 k7 k8 k9 k10
  have k9:=(ay H2.out 9 _ rfl).1
  have HP2:=ah (Kw.out w2 _ H2.out)
  clear Kw
  go_wp2_with fail
  refine HP2.out.mono ?_
  rintro e w3 ⟨rfl,rfl⟩
  cases bp with
  | false=>
   have HF:Hid (rv=false):=ah (by rw[HR.out];rfl)
   go_wp2
   rw[bP.out]
   exact⟨I,by (rw[HF.out];try rfl),Mem.le_refl _,H2.out.drop⟩
  | true=>
   obtain⟨r0,hr0⟩:=aC ((r==0))
   have aev:(r==0)=r0:=hr0.symm
   have HC2:Hid ((r0&&decide (c≤0))=(okR ⟨z.sn,z.sd⟩&&decide (z.sn≤z.sd))):=ah (by rw[hr0];exact HC.out)
   clear hr0
   cases r0 with
   | false=>
    have HF:Hid (rv=false):=ah (by rw[HR.out,←HC2.out];rfl)
    go_wp2
    rw[bP.out]
    exact⟨I,by (rw[HF.out];try rfl),Mem.le_refl _,H2.out.drop⟩
   | true=>
    by_cases hc0:c≤0
    ·by_cases hn0:0<z.sn
     ·have HF:Hid (rv=true):=ah (by rw[HR.out,←HC2.out,decide_eq_true hc0,decide_eq_true hn0];rfl)
      go_wp2
      rw[bP.out]
      exact⟨I,by (rw[HF.out];first|done|(simp;done)|(simp;omega);try rfl),Mem.le_refl _,H2.out.drop⟩
     ·have HF:Hid (rv=false):=ah (by rw[HR.out,decide_eq_false hn0];simp)
      go_wp2
      rw[bP.out]
      exact⟨I,by (rw[HF.out];first|done|(simp;done)|(simp;omega);try rfl),Mem.le_refl _,H2.out.drop⟩
    ·have HF:Hid (rv=false):=ah (by rw[HR.out,←HC2.out,decide_eq_false hc0];rfl)
     go_wp2
     rw[bP.out]
     exact⟨I,by (rw[HF.out];first|done|(simp;done)|(simp;omega);try rfl),Mem.le_refl _,H2.out.drop⟩
 ·as_aux_lemma=>
  have Kw:=ah (sZ B z H1.out.p1)
  have VX:=ah (rE B z H1.out.p1)
  obtain⟨bp,hbp⟩:=aC ((aJ z.q 1 4095&&decide (z.q≠z.p)))
  obtain⟨bl,hbl⟩:=aC (aJ z.u z.d 131072)
  have HR:Hid (rv=(bp&&bl)):=ah (by
   have h0:rv=(AB x&&iP x):=by rw[bI.out];rfl
   rw[h0,hbp,hbl];unfold iP AB;rw[HX.out.1.u,HX.out.1.d,HX.out.1.q,HX.out.1.p])
  rw[←hbl] at VX
  rw[←hbp] at Kw
  clear hbl hbp
  go_enter Tryz.func63,Tryz.ntmps63
  go_upto_region 1 with (fail)
  rw[←HB.out.1,←HB.out.2]
  go_wp2_with fail
  refine Kw.out.mono ?_
  rintro e w2 ⟨rfl,rfl⟩
  cases bp with
  | false=>
   have HF:Hid (rv=false):=ah (by rw[HR.out];rfl)
   go_wp2
   rw[bP.out]
   exact⟨I,by (rw[HF.out];try rfl),Mem.le_refl _,H1.out.p1.drop⟩
  | true=>
   go_wp2_with fail
   refine VX.out.mono ?_
   rintro e w2 ⟨rfl,rfl⟩
   have HF:Hid (rv=bl):=ah (by rw[HR.out];cases bl<;>rfl)
   go_wp2
   rw[bP.out]
   exact⟨I,by (rw[HF.out];try rfl),Mem.le_refl _,H1.out.p1.drop⟩
 ·as_aux_lemma=>
  obtain⟨b0,hb0⟩:=aC (aJ z.u 0 7)
  have C0:Hid (∀w',Calls Tryz.prog 60 #[.int .i64 z.u,.int .i64 0,.int .i64 7] w' fun e w''=>e=.returned (.bool b0)∧w'=w''):=ah fun w'=>by rw[hb0];exact aZ _ _ _ w'
  have HR:Hid (rv=(b0)):=ah (by
   have h0:rv=(aJ z.u 0 7):=by rw[bI.out];rfl
   rw[h0,←hb0])
  clear hb0
  go_enter Tryz.func63,Tryz.ntmps63
  go_upto_region 1 with (fail)
  rw[←HB.out.1,←HB.out.2]
  go_wp2_with fail
  refine (C0.out _).mono ?_
  rintro e w2 ⟨rfl,rfl⟩
  have HF:Hid (rv=b0):=ah (by rw[HR.out];try (cases b0<;>rfl))
  go_wp2
  rw[bP.out]
  exact⟨I,by (rw[HF.out];try rfl),Mem.le_refl _,H1.out.p1.drop⟩
 ·as_aux_lemma=>
  have k15:=(ay H1.out.p1 15 _ rfl).1
  have k16:=(ay H1.out.p1 16 _ rfl).1
  have k17:=(ay H1.out.p1 17 _ rfl).1
  have k18:=(ay H1.out.p1 18 _ rfl).1
  have sV:=ah (kD x.fx z.fo z.fn z.fi.a z.fi.n z.fi.c z.fk.a z.fk.n z.fk.c HX.out.1.fx HX.out.2.fx.1 HX.out.2.fx.2 H1.out)
  obtain⟨fe,hfe⟩:=aC (jO x.fx)
  have HR:Hid (rv=decide (fe=0)):=ah (by rw[bI.out,hfe];rfl)
  rw[←hfe] at sV
  clear hfe
  go_enter Tryz.func63,Tryz.ntmps63
  go_upto_region 1 with (fail)
  rw[←HB.out.1,←HB.out.2]
  go_wp2_with fail
  refine sV.out.mono ?_
  rintro e w2 ⟨rfl,h2⟩
  have H2:=ah h2
  clear h2 sV H1 k0 k5 k6 k7 k8 k15 k16 k17 k18
  obtain⟨fb,hfb⟩:=aC ((fe==0))
  have aew:(fe==0)=fb:=hfb.symm
  have HF:Hid (rv=fb):=ah (by
   rw[HR.out,hfb]
   by_cases h:fe=0
   ·rw[h];simp
   ·rw[decide_eq_false h];simpa using h)
  clear hfb
  go_wp2
  rw[bP.out]
  exact⟨I,by (rw[HF.out];try rfl),Mem.le_refl _,H2.out.p1.drop⟩
 ·as_aux_lemma=>
  have VX:=ah (rE B z H1.out.p1)
  obtain⟨bl,hbl⟩:=aC (aJ z.u z.d 131072)
  have HF:Hid (rv=bl):=ah (by
   have h0:rv=iP x:=by rw[bI.out];rfl
   rw[h0,hbl];unfold iP;rw[HX.out.1.u,HX.out.1.d])
  rw[←hbl] at VX
  clear hbl
  go_enter Tryz.func63,Tryz.ntmps63
  go_upto_region 1 with (fail)
  rw[←HB.out.1,←HB.out.2]
  go_wp2_with fail
  refine VX.out.mono ?_
  rintro e w2 ⟨rfl,rfl⟩
  go_wp2
  rw[bP.out]
  exact⟨I,by (rw[HF.out];try rfl),Mem.le_refl _,H1.out.p1.drop⟩
 ·as_aux_lemma=>
  obtain⟨b0,hb0⟩:=aC (aJ z.u 0 18)
  have C0:Hid (∀w',Calls Tryz.prog 60 #[.int .i64 z.u,.int .i64 0,.int .i64 18] w' fun e w''=>e=.returned (.bool b0)∧w'=w''):=ah fun w'=>by rw[hb0];exact aZ _ _ _ w'
  obtain⟨b1,hb1⟩:=aC (aJ z.m 0 1099511627776)
  have C1:Hid (∀w',Calls Tryz.prog 60 #[.int .i64 z.m,.int .i64 0,.int .i64 1099511627776] w' fun e w''=>e=.returned (.bool b1)∧w'=w''):=ah fun w'=>by rw[hb1];exact aZ _ _ _ w'
  have HR:Hid (rv=(b0&&b1)):=ah (by
   have h0:rv=(aJ z.u 0 18&&aJ z.m 0 1099511627776):=by rw[bI.out];rfl
   rw[h0,←hb0,←hb1])
  clear hb0 hb1
  go_enter Tryz.func63,Tryz.ntmps63
  go_upto_region 1 with (fail)
  rw[←HB.out.1,←HB.out.2]
  go_wp2_with fail
  refine (C0.out _).mono ?_
  rintro e w2 ⟨rfl,rfl⟩
  cases b0 with
  | false=>
   have HF:Hid (rv=false):=ah (by rw[HR.out];rfl)
   go_wp2
   rw[bP.out]
   exact⟨I,by (rw[HF.out];try rfl),Mem.le_refl _,H1.out.p1.drop⟩
  | true=>
   go_wp2_with fail
   refine (C1.out _).mono ?_
   rintro e w2 ⟨rfl,rfl⟩
   have HF:Hid (rv=b1):=ah (by rw[HR.out];try (cases b1<;>rfl))
   go_wp2
   rw[bP.out]
   exact⟨I,by (rw[HF.out];try rfl),Mem.le_refl _,H1.out.p1.drop⟩
end Go.Proofs.YthfmaclnccdcbaaGreatDoor

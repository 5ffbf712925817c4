/- Part of a proof. -/
import Derived.Test.YthfmaclnccdcbaaGreatDoorGActsOrder42
import Derived.Test.YthfmaclnccdcbaaGreatDoorGActsOrder40
namespace PA
open Go Go.RowKit
theorem Xf (a b c:BitVec 64):(((a ||| b) &&& c)==0#64)=((a &&& c==0#64)&&(b &&& c==0#64)):=by
 rw[Bool.eq_iff_iff];simp only[beq_iff_eq,Bool.and_eq_true];constructor
 ·intro h
  constructor<;>(apply BitVec.eq_of_getLsbD_eq;intro i hi;have:=congrArg (fun x=>x.getLsbD i) h;simp at this ⊢;grind)
 ·intro ⟨h1,h2⟩
  apply BitVec.eq_of_getLsbD_eq;intro i hi;have h3:=congrArg (fun x=>x.getLsbD i) h1;have h4:=congrArg (fun x=>x.getLsbD i) h2;simp at h3 h4 ⊢;grind
theorem WV (b:Bool) (k c:BitVec 64):(((if b=true then k else 0#64) &&& c)==0#64)=(!b||(k &&& c==0#64)):=by cases b<;>simp
def fldB (x:Pa):Nat→Bool
 | 0=>decide (x.f=0)
 | 1=>decide (x.o=0)
 | 2=>decide (x.p=0)
 | 3=>decide (x.q=0)
 | 4=>decide (x.u=0)
 | 5=>decide (x.m=0)
 | 6=>decide (x.sn=0)&&decide (x.sd=0)
 | 7=>decide (x.td.length=0)&&decide (x.tc.length=0)
 | 8=>decide (x.cl.length=0)
 | 9=>decide (x.ea.length=0)
 | _=>decide (x.fx.op=0)&&(decide (x.fx.num=0)&&(decide (x.fx.ins.length=0)&&decide (x.fx.kids.length=0)))
theorem TP {I:Mem} {z:Ac} {f:Fm} (h:rF.rel I [.int .i64 z.fo,.int .i64 z.fn,z.fi.v,z.fk.v] f):z.fo=f.op∧z.fn=f.num∧z.fi.n=f.ins.length∧z.fk.n=f.kids.length∧z.fi.n≤maxLen∧z.fk.n≤maxLen:=by
 obtain⟨o,n,i,k⟩:=f;obtain⟨a,c,b,d,e,h1,h2⟩:=dR.1 h;simp only[Sv.v,List.cons.injEq,Value.int.injEq,Value.slice.injEq,and_true,true_and] at e;obtain⟨e1,e2,⟨-,e3,-⟩,⟨-,e4,-⟩⟩:=e;refine⟨e1,e2,e3,e4,?_,?_⟩
 ·obtain⟨a',c',cs,e5,hsw,-⟩:=h1
  rw[e3];have:=hsw.1;have:=hsw.2.1;omega
 ·obtain⟨a',c',cs,e5,hsw,-⟩:=h2
  rw[e4];have:=hsw.1;have:=hsw.2.1;omega
theorem bB_fld {I:Mem} {z:Ac} {x:Pa} (h:kX I z x) (hl:x.td.length+x.tc.length+x.fx.ins.length+x.fx.kids.length≤4000000) (i:Nat):bB z i=!fldB x i:=by
 obtain⟨f1,f2,f3,f4,-,-⟩:=TP h.fx;have t1:=(aI h.td).1;have t2:=(aI h.tc).1;have t3:=(aI h.cl).1;have t4:=(aI h.ea).1;have hi:∀n:Int,(n !=0)=!decide (n=0):=fun n=>by by_cases hh:n=0<;>simp[hh]
 have hj:∀n:Int,(n==0)=decide (n=0):=fun n=>by by_cases hh:n=0<;>simp[hh]
 have hw:∀a b:Nat,a≤4000000→b≤4000000→decide (0<IntKind.i64.wrap ((a:Int)+(b:Int)))=!(decide (a=0)&&decide (b=0)):=fun a b ha hb=>by
  rw[IntWalk.i64_in _ (by omega)]
  by_cases h1:a=0<;>by_cases h2:b=0<;>simp[h1,h2]<;>omega
 have hp:∀n:Nat,decide (0<n)=!decide (n=0):=fun n=>by by_cases hh:n=0<;>simp[hh]<;>omega
 match i with
 | 0=>show (z.f !=0)=_;rw[hi,h.f];rfl
 | 1=>show (z.o !=0)=_;rw[hi,h.o];rfl
 | 2=>show (z.p !=0)=_;rw[hi,h.p];rfl
 | 3=>show (z.q !=0)=_;rw[hi,h.q];rfl
 | 4=>show (z.u !=0)=_;rw[hi,h.u];rfl
 | 5=>show (z.m !=0)=_;rw[hi,h.m];rfl
 | 6=>show (!(z.sn==0)||!(z.sd==0))=!(decide (x.sn=0)&&decide (x.sd=0));rw[hj,hj,h.sn,h.sd];cases decide (x.sn=0)<;>rfl
 | 7=>show decide (0<IntKind.i64.wrap ((z.td.n:Int)+(z.tc.n:Int)))=!(decide (x.td.length=0)&&decide (x.tc.length=0));rw[hw _ _ (by omega) (by omega),t1,t2]
 | 8=>show decide (0<z.cl.n)=!decide (x.cl.length=0);rw[hp,t3]
 | 9=>show decide (0<z.ea.n)=!decide (x.ea.length=0);rw[hp,t4]
 | i+10=>
  show ((z.fo !=0)||((z.fn !=0)||decide (0<IntKind.i64.wrap ((z.fi.n:Int)+(z.fk.n:Int)))))=!(decide (x.fx.op=0)&&(decide (x.fx.num=0)&&(decide (x.fx.ins.length=0)&&decide (x.fx.kids.length=0))));rw[hi,hi,hw _ _ (by omega) (by omega),f1,f2,f3,f4];cases decide (x.fx.op=0)<;>cases decide (x.fx.num=0)<;>rfl
def wI (k bit:Int):Bool:=bits BinOp.and IntKind.i64 (oK.getD k.toNat 0) bit !=0
theorem Ua (k:Int) (h:0≤k∧k≤21):wI k 1=bP k∧wI k 2=decide (k=0∨k=20∨k=21)∧wI k 4=decide (k=0∨k=4∨k=5∨k=12∨k=14∨k=16∨k=17):=by
 have key:∀n:Fin 22,wI ((n.1:Nat):Int) 1=bP ((n.1:Nat):Int)∧wI ((n.1:Nat):Int) 2=decide (((n.1:Nat):Int)=0∨((n.1:Nat):Int)=20∨((n.1:Nat):Int)=21)∧wI ((n.1:Nat):Int) 4=decide (((n.1:Nat):Int)=0∨((n.1:Nat):Int)=4∨((n.1:Nat):Int)=5∨((n.1:Nat):Int)=12∨((n.1:Nat):Int)=14∨((n.1:Nat):Int)=16∨((n.1:Nat):Int)=17):=by decide
 obtain⟨n,rfl⟩:∃n:Nat,k=(n:Int):=⟨k.toNat,by omega⟩
 exact key ⟨n,by omega⟩
def UZ (z:Ac) (x:Pa):Bool:=
 aN x.k 0 21&&(aN x.d 0 131072&&(aN x.n 0 1099511627776&&(BF z&&((!wI x.k 1||aN x.f 0 4095)&&((!wI x.k 2||aN x.o 0 11)&&((!wI x.k 4||aN x.p 1 4095)&&qP x))))))
theorem WG (x:Pa):oL x=(aN x.o 0 11&&(aN x.p 1 4095&&QK x)):=by
 unfold oL QK;cases aN x.o 0 11<;>cases aN x.p 1 4095<;>cases aN x.q (-1) 4095<;>simp
 by_cases h1:x.q=x.f<;>by_cases h2:8<x.ea.length<;>by_cases h3:ED x.td x.tc=0<;>simp[h1,h2,h3]<;>omega
theorem Qu {z:Ac} (c:Int) (hc:oK.getD z.k.toNat 0=c):BF z=(((((((((((!bB z 0||(1#64 &&& ~~~(BitVec.ofInt 64 c)==0#64))&&(!bB z 1||(2#64 &&& ~~~(BitVec.ofInt 64 c)==0#64)))&&(!bB z 2||(4#64 &&& ~~~(BitVec.ofInt 64 c)==0#64)))&&(!bB z 3||(8#64 &&& ~~~(BitVec.ofInt 64 c)==0#64)))&&(!bB z 4||(16#64 &&& ~~~(BitVec.ofInt 64 c)==0#64)))&&(!bB z 5||(32#64 &&& ~~~(BitVec.ofInt 64 c)==0#64)))&&(!bB z 6||(64#64 &&& ~~~(BitVec.ofInt 64 c)==0#64)))&&(!bB z 7||(128#64 &&& ~~~(BitVec.ofInt 64 c)==0#64)))&&(!bB z 8||(256#64 &&& ~~~(BitVec.ofInt 64 c)==0#64)))&&(!bB z 9||(512#64 &&& ~~~(BitVec.ofInt 64 c)==0#64)))&&(!bB z 10||(1024#64 &&& ~~~(BitVec.ofInt 64 c)==0#64))):=by
 unfold BF fU;rw[hc];simp only[Xf,WV]
set_option maxRecDepth 100000 in
set_option maxHeartbeats 4000000 in
theorem RF {I:Mem} {z:Ac} {x:Pa} (h:kX I z x) (hl:x.td.length+x.tc.length+x.fx.ins.length+x.fx.kids.length≤4000000):UZ z x=aZ x:=by
 have hf:=WG x;have hb:=bB_fld h hl;unfold UZ aZ;have hzk:=h.k;cases hk:aN x.k 0 21 with
 | false=>rfl
 | true=>
  have hk2:0≤x.k∧x.k≤21:=by simpa[aN] using hk
  clear hk;obtain⟨t1,t2,t3⟩:=Ua x.k hk2;rw[t1,t2,t3];clear t1 t2 t3;congr 1;congr 1;congr 1;obtain⟨k,d,n,f,o,p,q,u,m,sn,sd,td,tc,cl,ea,⟨fo,fn,fi,fk⟩⟩:=x;obtain hk|hk|hk|hk|hk|hk|hk|hk|hk|hk|hk|hk|hk|hk|hk|hk|hk|hk|hk|hk|hk|hk:k=0∨k=1∨k=2∨k=3∨k=4∨k=5∨k=6∨k=7∨k=8∨k=9∨k=10∨k=11∨k=12∨k=13∨k=14∨k=15∨k=16∨k=17∨k=18∨k=19∨k=20∨k=21:=by simp only at hk2;omega
  all_goals
   subst hk;rw[Qu _ (by rw[hzk])];simp only[hb,fldB,Bool.not_not];simp (decide:=true) [qP,aP,iD,jZ,bP,oK,DV,nV,IY,l7,jf,aN,Bool.and_assoc,hf,Fm.zero,Fm.op,Fm.num,Fm.ins,Fm.kids]
  all_goals first|grind|(rw[Bool.eq_iff_iff];simp only[Bool.and_eq_true,Bool.or_eq_true,decide_eq_true_eq,Bool.not_eq_true'];constructor<;>(intro h;try omega)<;>grind)|trace_state|skip
end PA
namespace Go.Proofs.YthfmaclnccdcbaaGreatDoor
open Go.RowKit PA
theorem yV {W w:World} {A:aC} (hW:jv W) (B:Nat) (k f:Int) (hk0:0≤k) (hk1:k≤21) (h:Sat W w A) (hk:w.cell? ⟨B,0,none⟩=some (.int .i64 k)):
 Calls Tryz.prog 62 #[.int .i64 f,.pointer (some ⟨B,0,none⟩)] w fun e w'=>e=.returned (.bool (wI k f))∧w=w':=by
 obtain⟨kn,rfl⟩:∃n:Nat,k=(n:Int):=⟨k.toNat,by omega⟩
 obtain⟨fr,hfr⟩:∃r,oK[kn]?=some r:=⟨_,List.getElem?_eq_getElem (by show kn<22;omega)⟩
 have hc:w.cell? ⟨0,kn,none⟩=some (.int .i64 fr):=BK h (hW kn fr hfr);obtain⟨bf,hbf⟩:=aB (wI (kn:Int) f);have HF:Hid (bf=(bits BinOp.and IntKind.i64 fr f !=0)):=ah (by
  rw[hbf];unfold wI;rw[Int.toNat_natCast,List.getD_eq_getElem?_getD,hfr];rfl)
 rw[←hbf];have ahm:(kn:Int)<22:=by omega
 clear hbf hfr h
 go_enter Tryz.func62,Tryz.ntmps62
 go_wp2
 go_ret
 exact⟨by (rw[HF.out];try rfl),rfl⟩
attribute [local go_sem ↓] bW dB aY
set_option maxRecDepth 100000 in
set_option maxHeartbeats 16000000 in
theorem xR {W w:World} {A:aC} {I:Mem} (hW:jv W) (z:Ac) (x:Pa) (hA:kX I z x) (hz:SzM x) (h:Sat W w (sep (kn I) A)):
 Calls Tryz.prog 17 #[.agg z.cells.toArray] w fun e w'=>∃J,e=.returned (.int .i64 (if aZ x=true then 0 else 1))∧Mem.le I J∧Sat W w' (sep (kn J) A):=by
 have h1:=(h.alloc (.cells z.cells.toArray 36)).p1;obtain⟨B,hB⟩:=aB (w.heap.size);obtain⟨w1,hw1⟩:=aB (w.alloc (.cells z.cells.toArray 36));rw[←hB,←hw1] at h1;have HB:=ah (And.intro hB hw1);obtain⟨rv,dK⟩:=aB (aZ x);rw[←dK];obtain⟨b0,hb0⟩:=aB (aN z.k 0 21);obtain⟨b1,hb1⟩:=aB (aN z.d 0 131072);obtain⟨b2,hb2⟩:=aB (aN z.n 0 1099511627776);obtain⟨bm,hbm⟩:=aB (BF z);obtain⟨g3,hg3⟩:=aB (wI z.k 1);obtain⟨g4,hg4⟩:=aB (wI z.k 2);obtain⟨g5,hg5⟩:=aB (wI z.k 4);obtain⟨b3,hb3⟩:=aB (aN z.f 0 4095);obtain⟨b4,hb4⟩:=aB (aN z.o 0 11);obtain⟨b5,hb5⟩:=aB (aN z.p 1 4095);obtain⟨fm,hfm⟩:=aB (qP x);have bM:Hid (rv=(b0&&(b1&&(b2&&(bm&&((!g3||b3)&&((!g4||b4)&&((!g5||b5)&&fm)))))))):=ah (by
  rw[dK,←RF hA hz.ln,hb0,hb1,hb2,hbm,hg3,hg4,hg5,hb3,hb4,hb5,hfm,hA.k,hA.d,hA.n,hA.f,hA.o,hA.p];rfl)
 have C0:Hid (∀w',Calls Tryz.prog 60 #[.int .i64 z.k,.int .i64 0,.int .i64 21] w' fun e w''=>e=.returned (.bool b0)∧w'=w''):=ah fun w'=>by rw[hb0];exact bG _ _ _ w'
 have C1:Hid (∀w',Calls Tryz.prog 60 #[.int .i64 z.d,.int .i64 0,.int .i64 131072] w' fun e w''=>e=.returned (.bool b1)∧w'=w''):=ah fun w'=>by rw[hb1];exact bG _ _ _ w'
 have C2:Hid (∀w',Calls Tryz.prog 60 #[.int .i64 z.n,.int .i64 0,.int .i64 1099511627776] w' fun e w''=>e=.returned (.bool b2)∧w'=w''):=ah fun w'=>by rw[hb2];exact bG _ _ _ w'
 have C3:Hid (∀w',Calls Tryz.prog 60 #[.int .i64 z.f,.int .i64 0,.int .i64 4095] w' fun e w''=>e=.returned (.bool b3)∧w'=w''):=ah fun w'=>by rw[hb3];exact bG _ _ _ w'
 have C4:Hid (∀w',Calls Tryz.prog 60 #[.int .i64 z.o,.int .i64 0,.int .i64 11] w' fun e w''=>e=.returned (.bool b4)∧w'=w''):=ah fun w'=>by rw[hb4];exact bG _ _ _ w'
 have C5:Hid (∀w',Calls Tryz.prog 60 #[.int .i64 z.p,.int .i64 1,.int .i64 4095] w' fun e w''=>e=.returned (.bool b5)∧w'=w''):=ah fun w'=>by rw[hb5];exact bG _ _ _ w'
 have hk:b0=true→0≤z.k∧z.k≤21:=fun e=>by rw[hb0] at e;simpa[aN] using e
 have CB:Hid (∀w' A',b0=true→Sat W w' A'→Calls Tryz.prog 61 #[.agg z.cells.toArray] w' fun e w''=>e=.returned (.bool bm)∧Sat W w'' A'):=ah fun w' A' e h'=>by rw[hbm];exact Qv hW z (hk e).1 (hk e).2 h'
 have CF:Hid (∀w' A',b0=true→Sat W w' (sep (kn I) A')→Calls Tryz.prog 63 #[.agg z.cells.toArray] w' fun e w''=>∃J,e=.returned (.bool fm)∧Mem.le I J∧Sat W w'' (sep (kn J) A')):=ah fun w' A' e h'=>by rw[hfm];exact EY z x hA hz (hk e).1 (hk e).2 h'
 have EC:Hid (∀w',Sat W w' (sep (kn I) (sep (blk B (.cells z.cells.toArray 36 (0,0))) A))→w'.cell? ⟨B,0,none⟩=some (.int .i64 z.k)∧w'.cell? ⟨B,3,none⟩=some (.int .i64 z.f)∧w'.cell? ⟨B,4,none⟩=some (.int .i64 z.o)∧w'.cell? ⟨B,5,none⟩=some (.int .i64 z.p)∧Sem.run Tryz.prog (jA (.pointer (some ⟨B,0,none⟩))) w'=.ok (.agg z.cells.toArray) w'):=ah fun w' h'=>⟨(au h'.p1 0 _ rfl).1,(au h'.p1 3 _ rfl).1,(au h'.p1 4 _ rfl).1,(au h'.p1 5 _ rfl).1,gB h'.p1⟩
 have MC:Hid (∀w',b0=true→Sat W w' (sep (kn I) (sep (blk B (.cells z.cells.toArray 36 (0,0))) A))→Calls Tryz.prog 62 #[.int .i64 1,.pointer (some ⟨B,0,none⟩)] w' fun e w''=>e=.returned (.bool g3)∧w'=w''):=ah fun w' e h'=>by rw[hg3];exact yV hW B z.k 1 (hk e).1 (hk e).2 h' (EC.out w' h').1
 have Y0:Hid (∀w',b0=true→Sat W w' (sep (kn I) (sep (blk B (.cells z.cells.toArray 36 (0,0))) A))→Calls Tryz.prog 62 #[.int .i64 2,.pointer (some ⟨B,0,none⟩)] w' fun e w''=>e=.returned (.bool g4)∧w'=w''):=ah fun w' e h'=>by rw[hg4];exact yV hW B z.k 2 (hk e).1 (hk e).2 h' (EC.out w' h').1
 have HG5:Hid (∀w',b0=true→Sat W w' (sep (kn I) (sep (blk B (.cells z.cells.toArray 36 (0,0))) A))→Calls Tryz.prog 62 #[.int .i64 4,.pointer (some ⟨B,0,none⟩)] w' fun e w''=>e=.returned (.bool g5)∧w'=w''):=ah fun w' e h'=>by rw[hg5];exact yV hW B z.k 4 (hk e).1 (hk e).2 h' (EC.out w' h').1
 have k0:=(au h1.p1 0 _ rfl).1;have k1:=(au h1.p1 1 _ rfl).1;have k2:=(au h1.p1 2 _ rfl).1;have hld:=gB h1.p1;have H1:=ah h1;have hmf:∀(fn:Fn) (first cap:Array Value) (w:World),(Instr.makeFunc fn first cap).run Tryz.prog w=.ok (.func fn first cap) w:=fun _ _ _ _=>rfl
 obtain⟨Po,dU⟩:∃P:Ending→World→Prop,P=fun e w'=>∃J,e=.returned (.int .i64 (if rv=true then 0 else 1))∧Mem.le I J∧Sat W w' (sep (kn J) A):=⟨_,rfl⟩
 rw[←dU];have bI:=ah dU;clear h h1 hB hw1 dK hb0 hb1 hb2 hbm hg3 hg4 hg5 hb3 hb4 hb5 hfm hk dU hA hz
 go_enter Tryz.func17,Tryz.ntmps17
 go_upto_region 1 with (fail)
 rw[←HB.out.1,←HB.out.2]
 go_wp2_with fail
 refine (C0.out _).mono ?_;rintro e w2 ⟨rfl,rfl⟩;cases b0 with
 | false=>
  have HF:Hid (rv=false):=ah (by rw[bM.out];simp)
  go_wp2
  rw[bI.out];exact⟨I,by (rw[HF.out];try rfl),Mem.le_refl _,H1.out.p1.drop⟩
 | true=>
  go_wp2_with fail
  refine (C1.out _).mono ?_;rintro e w2 ⟨rfl,rfl⟩;cases b1 with
  | false=>
   have HF:Hid (rv=false):=ah (by rw[bM.out];simp)
   go_wp2
   rw[bI.out];exact⟨I,by (rw[HF.out];try rfl),Mem.le_refl _,H1.out.p1.drop⟩
  | true=>
   go_wp2_with fail
   refine (C2.out _).mono ?_;rintro e w2 ⟨rfl,rfl⟩;cases b2 with
   | false=>
    have HF:Hid (rv=false):=ah (by rw[bM.out];simp)
    go_wp2
    rw[bI.out];exact⟨I,by (rw[HF.out];try rfl),Mem.le_refl _,H1.out.p1.drop⟩
   | true=>
    go_wp2_with fail
    refine (CB.out _ _ (by first|rfl|trivial) H1.out).mono ?_;rintro e w2 ⟨rfl,h2⟩;have H2:=ah h2;clear h2 k0 k1 k2 hld H1 CB;cases bm with
    | false=>
     have HF:Hid (rv=false):=ah (by rw[bM.out];simp)
     go_wp2
     rw[bI.out];exact⟨I,by (rw[HF.out];try rfl),Mem.le_refl _,H2.out.p1.drop⟩
    | true=>
     obtain⟨k0,k3,k4,k5,hld⟩:=EC.out _ H2.out;clear EC
     go_wp2_with fail
     refine (MC.out _ (by first|rfl|trivial) H2.out).mono ?_;rintro e w3 ⟨rfl,rfl⟩;cases g3 with
     | false=>
      as_aux_lemma=>
      go_wp2_with fail
      refine (Y0.out _ (by first|rfl|trivial) H2.out).mono ?_;rintro e w3 ⟨rfl,rfl⟩;cases g4 with
      | false=>
       as_aux_lemma=>
       go_wp2_with fail
       refine (HG5.out _ (by first|rfl|trivial) H2.out).mono ?_;rintro e w3 ⟨rfl,rfl⟩;cases g5 with
       | false=>
        as_aux_lemma=>
        go_wp2_with fail
        refine (CF.out _ _ (by first|rfl|trivial) H2.out).mono ?_;rintro e w3 ⟨J,rfl,hle,h3⟩;have H3:=ah h3;have HL:=ah hle;clear h3 hle k0 k3 k4 k5 hld H2 CF;cases fm with
        | false=>
         have HF:Hid (rv=false):=ah (by rw[bM.out];simp)
         go_wp2
         rw[bI.out];exact⟨J,by (rw[HF.out];try rfl),HL.out,H3.out.p1.drop⟩
        | true=>
         have HF:Hid (rv=true):=ah (by rw[bM.out];rfl)
         go_wp2
         rw[bI.out];exact⟨J,by (rw[HF.out];try rfl),HL.out,H3.out.p1.drop⟩
       | true=>
        as_aux_lemma=>
        go_wp2_with fail
        refine (C5.out _).mono ?_;rintro e w4 ⟨rfl,rfl⟩;cases b5 with
        | false=>
         have HF:Hid (rv=false):=ah (by rw[bM.out];simp)
         go_wp2
         rw[bI.out];exact⟨I,by (rw[HF.out];try rfl),Mem.le_refl _,H2.out.p1.drop⟩
        | true=>
         go_wp2_with fail
         refine (CF.out _ _ (by first|rfl|trivial) H2.out).mono ?_;rintro e w3 ⟨J,rfl,hle,h3⟩;have H3:=ah h3;have HL:=ah hle;clear h3 hle k0 k3 k4 k5 hld H2 CF;cases fm with
         | false=>
          have HF:Hid (rv=false):=ah (by rw[bM.out];simp)
          go_wp2
          rw[bI.out];exact⟨J,by (rw[HF.out];try rfl),HL.out,H3.out.p1.drop⟩
         | true=>
          have HF:Hid (rv=true):=ah (by rw[bM.out];rfl)
          go_wp2
          rw[bI.out];exact⟨J,by (rw[HF.out];try rfl),HL.out,H3.out.p1.drop⟩
      | true=>
       as_aux_lemma=>
       go_wp2_with fail
       refine (C4.out _).mono ?_;rintro e w4 ⟨rfl,rfl⟩;cases b4 with
       | false=>
        have HF:Hid (rv=false):=ah (by rw[bM.out];simp)
        go_wp2
        rw[bI.out];exact⟨I,by (rw[HF.out];try rfl),Mem.le_refl _,H2.out.p1.drop⟩
       | true=>
        go_wp2_with fail
        refine (HG5.out _ (by first|rfl|trivial) H2.out).mono ?_;rintro e w3 ⟨rfl,rfl⟩;cases g5 with
        | false=>
         as_aux_lemma=>
         go_wp2_with fail
         refine (CF.out _ _ (by first|rfl|trivial) H2.out).mono ?_;rintro e w3 ⟨J,rfl,hle,h3⟩;have H3:=ah h3;have HL:=ah hle;clear h3 hle k0 k3 k4 k5 hld H2 CF;cases fm with
         | false=>
          have HF:Hid (rv=false):=ah (by rw[bM.out];simp)
          go_wp2
          rw[bI.out];exact⟨J,by (rw[HF.out];try rfl),HL.out,H3.out.p1.drop⟩
         | true=>
          have HF:Hid (rv=true):=ah (by rw[bM.out];rfl)
          go_wp2
          rw[bI.out];exact⟨J,by (rw[HF.out];try rfl),HL.out,H3.out.p1.drop⟩
        | true=>
         as_aux_lemma=>
         go_wp2_with fail
         refine (C5.out _).mono ?_;rintro e w4 ⟨rfl,rfl⟩;cases b5 with
         | false=>
          have HF:Hid (rv=false):=ah (by rw[bM.out];simp)
          go_wp2
          rw[bI.out];exact⟨I,by (rw[HF.out];try rfl),Mem.le_refl _,H2.out.p1.drop⟩
         | true=>
          go_wp2_with fail
          refine (CF.out _ _ (by first|rfl|trivial) H2.out).mono ?_;rintro e w3 ⟨J,rfl,hle,h3⟩;have H3:=ah h3;have HL:=ah hle;clear h3 hle k0 k3 k4 k5 hld H2 CF;cases fm with
          | false=>
           have HF:Hid (rv=false):=ah (by rw[bM.out];simp)
           go_wp2
           rw[bI.out];exact⟨J,by (rw[HF.out];try rfl),HL.out,H3.out.p1.drop⟩
          | true=>
           have HF:Hid (rv=true):=ah (by rw[bM.out];rfl)
           go_wp2
           rw[bI.out];exact⟨J,by (rw[HF.out];try rfl),HL.out,H3.out.p1.drop⟩
     | true=>
      as_aux_lemma=>
      go_wp2_with fail
      refine (C3.out _).mono ?_;rintro e w4 ⟨rfl,rfl⟩;cases b3 with
      | false=>
       have HF:Hid (rv=false):=ah (by rw[bM.out];simp)
       go_wp2
       rw[bI.out];exact⟨I,by (rw[HF.out];try rfl),Mem.le_refl _,H2.out.p1.drop⟩
      | true=>
       go_wp2_with fail
       refine (Y0.out _ (by first|rfl|trivial) H2.out).mono ?_;rintro e w3 ⟨rfl,rfl⟩;cases g4 with
       | false=>
        as_aux_lemma=>
        go_wp2_with fail
        refine (HG5.out _ (by first|rfl|trivial) H2.out).mono ?_;rintro e w3 ⟨rfl,rfl⟩;cases g5 with
        | false=>
         as_aux_lemma=>
         go_wp2_with fail
         refine (CF.out _ _ (by first|rfl|trivial) H2.out).mono ?_;rintro e w3 ⟨J,rfl,hle,h3⟩;have H3:=ah h3;have HL:=ah hle;clear h3 hle k0 k3 k4 k5 hld H2 CF;cases fm with
         | false=>
          have HF:Hid (rv=false):=ah (by rw[bM.out];simp)
          go_wp2
          rw[bI.out];exact⟨J,by (rw[HF.out];try rfl),HL.out,H3.out.p1.drop⟩
         | true=>
          have HF:Hid (rv=true):=ah (by rw[bM.out];rfl)
          go_wp2
          rw[bI.out];exact⟨J,by (rw[HF.out];try rfl),HL.out,H3.out.p1.drop⟩
        | true=>
         as_aux_lemma=>
         go_wp2_with fail
         refine (C5.out _).mono ?_;rintro e w4 ⟨rfl,rfl⟩;cases b5 with
         | false=>
          have HF:Hid (rv=false):=ah (by rw[bM.out];simp)
          go_wp2
          rw[bI.out];exact⟨I,by (rw[HF.out];try rfl),Mem.le_refl _,H2.out.p1.drop⟩
         | true=>
          go_wp2_with fail
          refine (CF.out _ _ (by first|rfl|trivial) H2.out).mono ?_;rintro e w3 ⟨J,rfl,hle,h3⟩;have H3:=ah h3;have HL:=ah hle;clear h3 hle k0 k3 k4 k5 hld H2 CF;cases fm with
          | false=>
           have HF:Hid (rv=false):=ah (by rw[bM.out];simp)
           go_wp2
           rw[bI.out];exact⟨J,by (rw[HF.out];try rfl),HL.out,H3.out.p1.drop⟩
          | true=>
           have HF:Hid (rv=true):=ah (by rw[bM.out];rfl)
           go_wp2
           rw[bI.out];exact⟨J,by (rw[HF.out];try rfl),HL.out,H3.out.p1.drop⟩
       | true=>
        as_aux_lemma=>
        go_wp2_with fail
        refine (C4.out _).mono ?_;rintro e w4 ⟨rfl,rfl⟩;cases b4 with
        | false=>
         have HF:Hid (rv=false):=ah (by rw[bM.out];simp)
         go_wp2
         rw[bI.out];exact⟨I,by (rw[HF.out];try rfl),Mem.le_refl _,H2.out.p1.drop⟩
        | true=>
         go_wp2_with fail
         refine (HG5.out _ (by first|rfl|trivial) H2.out).mono ?_;rintro e w3 ⟨rfl,rfl⟩;cases g5 with
         | false=>
          as_aux_lemma=>
          go_wp2_with fail
          refine (CF.out _ _ (by first|rfl|trivial) H2.out).mono ?_;rintro e w3 ⟨J,rfl,hle,h3⟩;have H3:=ah h3;have HL:=ah hle;clear h3 hle k0 k3 k4 k5 hld H2 CF;cases fm with
          | false=>
           have HF:Hid (rv=false):=ah (by rw[bM.out];simp)
           go_wp2
           rw[bI.out];exact⟨J,by (rw[HF.out];try rfl),HL.out,H3.out.p1.drop⟩
          | true=>
           have HF:Hid (rv=true):=ah (by rw[bM.out];rfl)
           go_wp2
           rw[bI.out];exact⟨J,by (rw[HF.out];try rfl),HL.out,H3.out.p1.drop⟩
         | true=>
          as_aux_lemma=>
          go_wp2_with fail
          refine (C5.out _).mono ?_;rintro e w4 ⟨rfl,rfl⟩;cases b5 with
          | false=>
           have HF:Hid (rv=false):=ah (by rw[bM.out];simp)
           go_wp2
           rw[bI.out];exact⟨I,by (rw[HF.out];try rfl),Mem.le_refl _,H2.out.p1.drop⟩
          | true=>
           go_wp2_with fail
           refine (CF.out _ _ (by first|rfl|trivial) H2.out).mono ?_;rintro e w3 ⟨J,rfl,hle,h3⟩;have H3:=ah h3;have HL:=ah hle;clear h3 hle k0 k3 k4 k5 hld H2 CF;cases fm with
           | false=>
            have HF:Hid (rv=false):=ah (by rw[bM.out];simp)
            go_wp2
            rw[bI.out];exact⟨J,by (rw[HF.out];try rfl),HL.out,H3.out.p1.drop⟩
           | true=>
            have HF:Hid (rv=true):=ah (by rw[bM.out];rfl)
            go_wp2
            rw[bI.out];exact⟨J,by (rw[HF.out];try rfl),HL.out,H3.out.p1.drop⟩
end Go.Proofs.YthfmaclnccdcbaaGreatDoor
namespace PA
open Go Go.RowKit
theorem LX {x:Pa} (h:aZ x=true) (hk:x.k=0):x.ea.length≤8:=by
 unfold aZ at h;simp only[Bool.and_eq_true] at h;have h2:=h.2.2.2.2.2;unfold aP at h2;rw[if_pos hk] at h2;unfold oL at h2;split at h2
 ·cases h2
 ·omega
theorem Cc {l:List Ea} (h:∀e∈l,(-9223372036854775808≤e.file∧e.file≤9223372036854775807)∧(-9223372036854775808≤e.day∧e.day≤9223372036854775807)):(kQ l).length≤20*l.length:=by
 induction l with
 | nil=>simp[kQ]
 | cons e l ih=>
  have h1:=ih fun g hg=>h g (List.mem_cons_of_mem _ hg)
  have h2:=h e (List.mem_cons_self ..);have h3:=dY h2.1.1 h2.1.2;have h4:=dY h2.2.1 h2.2.2;unfold kQ at h1 ⊢;have h5:(oJ e).length≤20:=by unfold oJ;rw[dF];omega
  rw[List.map_cons,List.flatten_cons,dF,List.length_cons];omega
theorem QI {x:Pa} (h:aZ x=true) (hE:kK x):(iE x).length≤268436000:=by
 unfold iE;split
 ·rename_i hk
  have h1:=LX h hk;have h2:=Cc hE.ea;have h3:=iO (mJ hE.lt) (by omega);have h4:=dY (r:=(x.ea.length:Int)) (by omega) (by omega);simp only[dF];omega
 ·split
  ·have:=iO (kC hE.fx.bl) (by omega);omega
  ·simp
end PA
namespace Go.Proofs.YthfmaclnccdcbaaGreatDoor
open Go.RowKit PA
attribute [local go_sem ↓] bW dB aY sQ
set_option maxRecDepth 100000 in
set_option maxHeartbeats 16000000 in
theorem vN {W w:World} {A:aC} {I:Mem} (hW:jv W) (z:Ac) (x:Pa) (hA:kX I z x) (hz:SzM x) (hE:kK x) (h:Sat W w (sep (kn I) A)):
 Calls Tryz.prog 25 #[.agg z.cells.toArray] w fun e w'=>∃(b:Option Addr) (m d:Nat) (J:Mem),e=.returned (.tuple #[.slice b m d,.int .i64 (if aZ x=true then 0 else 1)])∧Mem.le I J∧bT.rel J [.slice b m d] (gZ x)∧Sat W w' (sep (kn J) A):=by
 have h1:=(h.alloc (.cells z.cells.toArray 36)).p1;obtain⟨B,hB⟩:=aB (w.heap.size);obtain⟨w1,hw1⟩:=aB (w.alloc (.cells z.cells.toArray 36));rw[←hB,←hw1] at h1;have HB:=ah (And.intro hB hw1);have hld:=gB h1.p1;have HV:Hid (∀w' A',Sat W w' (sep (kn I) A')→Calls Tryz.prog 17 #[.agg z.cells.toArray] w' fun e w''=>∃J,e=.returned (.int .i64 (if aZ x=true then 0 else 1))∧Mem.le I J∧Sat W w'' (sep (kn J) A')):=ah fun w' A' h'=>xR hW z x hA hz h'
 obtain⟨rv,dK⟩:=aB (aZ x);rw[←dK] at HV ⊢;have rM:Hid ((rv=false→gZ x=[])∧(rv=true→gZ x=Ce x)):=ah ⟨fun e=>by unfold gZ;rw[←dK,e];rfl,fun e=>by unfold gZ;rw[←dK,e];rfl⟩;obtain⟨E,hEE⟩:=aB (gZ x);rw[←hEE] at rM ⊢;obtain⟨Po,dU⟩:∃P:Ending→World→Prop,P=fun e w'=>∃(b:Option Addr) (m d:Nat) (J:Mem),e=.returned (.tuple #[.slice b m d,.int .i64 (if rv=true then 0 else 1)])∧Mem.le I J∧bT.rel J [.slice b m d] E∧Sat W w' (sep (kn J) A):=⟨_,rfl⟩
 rw[←dU];have bI:=ah dU;have HX:=ah (And.intro hA (And.intro hz hE));have H1:=ah h1;clear hA hz hE h h1 hB hw1 hEE dU;cases rv with
 | false=>
  have GX:=ah (rM.out.1 (by first|rfl|trivial));clear dK
  go_enter Tryz.func25,Tryz.ntmps25
  go_upto_region 1 with (fail)
  rw[←HB.out.1,←HB.out.2]
  go_wp2_with fail
  refine (HV.out _ _ H1.out).mono ?_;rintro e w2 ⟨J,rfl,hle,h2⟩;have HF:=ah (And.intro hle h2.p1.drop);clear h2 hle HV hld H1
  go_wp2
  rw[bI.out];exact⟨none,0,0,J,rfl,HF.out.1,by rw[GX.out];exact iZ J,HF.out.2⟩
 | true=>
  have hEW:E=Ce x:=rM.out.2 (by first|rfl|trivial);obtain⟨L,hL⟩:=aB (fH x);obtain⟨V,hV⟩:∃V:Nat→List UInt8,V=fun j=>((L.take j).map PA.encI).flatten:=⟨_,rfl⟩
  have Zo:L.length=11:=by rw[hL];rfl
  have Ic:∀r∈L,-9223372036854775808≤r∧r≤9223372036854775807:=by rw[hL];exact HX.out.2.2.n64
  have hV0:V 0=[]:=by rw[hV];simp
  have Ai:∀j g,L[j]?=some g→V (j+1)=V j++PA.encI g:=fun j g hg=>by rw[hV];simp only;rw[Gw hg]
  have Ah:∀j,(V j).length≤10*j:=by
   intro j
   induction j with
   | zero=>rw[hV0];simp
   | succ j ih=>
    cases hg:L[j]? with
    | none=>rw[hV] at ih ⊢;simp only at ih ⊢;rw[List.take_add_one,hg];simp at ih ⊢;omega
    | some g=>
     rw[Ai j g hg,dF];have:=dY (Ic g (List.mem_of_getElem? hg)).1 (Ic g (List.mem_of_getElem? hg)).2;omega
  have Yy:E=V 11++iE x++sZ x:=by
   rw[hEW,hV];simp only;rw[←Zo,List.take_length,hL];rfl
  have hEl:E.length≤1073741824:=by rw[hEW];exact HX.out.2.2.lw
  have HKD:=ah (QI (dK).symm HX.out.2.2);have HV8:=ah (fun hk=>LX (x:=x) (dK).symm hk);have HVV:=ah (And.intro hV0 (And.intro Ai (And.intro Yy (And.intro Ah hEl))));have HL:=ah (And.intro Zo (And.intro hL Ic));obtain⟨X,hXX⟩:=aB (sep (blk B (.cells z.cells.toArray 36 (0,0))) A);have yF:Hid (∀w' Y,Sat W w' (sep X Y)→Sat W w' (sep (blk B (.cells z.cells.toArray 36 (0,0))) (sep A Y))):=ah fun w' Y h'=>by rw[hXX,aj] at h';exact h'
  have h1:=H1.out;rw[←hXX] at h1;have H1:=ah h1;have HXX:=ah hXX;clear dK rM hEW hV Zo hL Ic hV0 Ai Ah Yy hEl h1 hXX
  go_enter Tryz.func25,Tryz.ntmps25
  go_upto_region 1 with (fail)
  rw[←HB.out.1,←HB.out.2]
  go_wp2_with fail
  refine (HV.out _ _ H1.out).mono ?_;rintro e w2 ⟨J,rfl,hle,h2⟩;have hw2:=Ov h2;obtain⟨P,hP⟩:=aB (w2.heap.size);obtain⟨w3,hw3⟩:=aB (w2.alloc (.cells #[.slice none 0 0] 104));rw[←hP,←hw3] at hw2;have HPW:=ah (And.intro hP hw3);have hp3:=yF.out _ _ (show Sat W w3 (sep X (sep (dM P []) (kn J))) by simpa only[aA,ay,aj] using hw2);have k0:=(au hp3 0 _ rfl).1;have k1:=(au hp3 1 _ rfl).1;have k2:=(au hp3 2 _ rfl).1;have k3:=(au hp3 3 _ rfl).1;have k4:=(au hp3 4 _ rfl).1;have k5:=(au hp3 5 _ rfl).1;have k6:=(au hp3 6 _ rfl).1;have k7:=(au hp3 7 _ rfl).1;have k8:=(au hp3 8 _ rfl).1;have k9:=(au hp3 9 _ rfl).1;have k10:=(au hp3 10 _ rfl).1;have hbs:=Tn w3 z.k z.d z.n z.f z.o z.p z.q z.u z.m z.sn z.sd;have hA2:=hw2.alloc (.cells #[.int .i64 z.k,.int .i64 z.d,.int .i64 z.n,.int .i64 z.f,.int .i64 z.o,.int .i64 z.p,.int .i64 z.q,.int .i64 z.u,.int .i64 z.m,.int .i64 z.sn,.int .i64 z.sd] 3);obtain⟨N,hN⟩:=aB (w3.heap.size);obtain⟨w4,hw4⟩:=aB (w3.alloc (.cells #[.int .i64 z.k,.int .i64 z.d,.int .i64 z.n,.int .i64 z.f,.int .i64 z.o,.int .i64 z.p,.int .i64 z.q,.int .i64 z.u,.int .i64 z.m,.int .i64 z.sn,.int .i64 z.sd] 3));rw[←hN,←hw4] at hbs hA2;obtain⟨Y,hY⟩:=aB (blk N (.cells #[.int .i64 z.k,.int .i64 z.d,.int .i64 z.n,.int .i64 z.f,.int .i64 z.o,.int .i64 z.p,.int .i64 z.q,.int .i64 z.u,.int .i64 z.m,.int .i64 z.sn,.int .i64 z.sd] 3 (0,0)));have HYC:Hid (∀w' Z,Sat W w' (sep Y Z)→∀k r,L[k]?=some r→w'.cell? ⟨N,k,none⟩=some (.int .i64 r)):=ah fun w' Z h' k r hr=>by
   rw[hY] at h';rw[h'.cell k];rw[HL.out.2.1,fH,←HX.out.1.k,←HX.out.1.d,←HX.out.1.n,←HX.out.1.f,←HX.out.1.o,←HX.out.1.p,←HX.out.1.q,←HX.out.1.u,←HX.out.1.m,←HX.out.1.sn,←HX.out.1.sd] at hr
   match k,hr with
   | 0,hr|1,hr|2,hr|3,hr|4,hr|5,hr|6,hr|7,hr|8,hr|9,hr|10,hr=>simp at hr;subst hr;rfl
   | k+11,hr=>simp at hr
  rw[←hY] at hA2;have H5:Hid (Sat W w4 (sep (dM P []) (sep Y (sep (kn J) X)))):=ah (dJ hA2);have Jm:=ah hw4;have jr:=ah hle;clear h2 hw2 hP hw3 hp3 hA2 hN hw4 hY H1 hld HV hle
  go_upto_region 4 with (fail)
  rw[←HPW.out.1,←HPW.out.2]
  go_upto_block 0 with (fail)
  try rw[←Jm.out]
  clear hbs k0 k1 k2 k3 k4 k5 k6 k7 k8 k9 k10
  go_cut [] from 6 to 50 (fun wx=>Sat W wx (sep (dM P (V 11)) (sep (kn J) X)))
  case first=>
   as_aux_lemma=>
   go_wp2_with fail
   go_loopw [44] (fun kv wr=>∃(k:Nat),kv=.int .i64 k∧k≤11∧Sat W wr (sep (dM P (V k)) (sep Y (sep (kn J) X)))) (fun kv _=>11-(intOf kv).toNat)
   case atStart=>exact⟨0,rfl,by omega,by rw[HVV.out.1];exact H5.out⟩
   case round=>
    obtain⟨k,rfl,hk,hS⟩:=hrel;clear H5
    by_cases hlt:k<11
    ·have hltz:(k:Int)<11:=by omega
     obtain⟨r,hr⟩:∃r,L[k]?=some r:=⟨_,List.getElem?_eq_getElem (by have:=HL.out.1;omega)⟩
     have j0:=HYC.out _ _ hS.p1 k r hr;have Dh:=HL.out.2.2 r (List.mem_of_getElem? hr);have hw:=iJ P (V k) r Dh.1 Dh.2 hS (by have:=HVV.out.2.2.2.1 k;omega);rw[←HVV.out.2.1 k r hr] at hw;have Jo:=ah hw;have SA:=ah hlt;clear hr Dh hw hlt hk hS
     go_wp2_with fail
     refine Jo.out.mono ?_;rintro e w5 ⟨rfl,h6⟩;have H6:=ah h6;clear h6 Jo j0
     go_wp2_with fail
     go_roundw
     case rel=>exact⟨k+1,by go_num,by have:=SA.out;omega,H6.out⟩
     case measure=>simp[intOf];have:=SA.out;omega
    ·obtain rfl:k=11:=by omega
     have H6:Hid (Sat W wr (sep (dM P (V 11)) (sep (kn J) X))):=ah hS.p1.drop;have hltz:¬((11:Nat):Int)<11:=by omega
     clear hS hlt hk
     go_wp2
     go_meet
     case rel=>exact H6.out
  case rest=>
   have H6:=ah hcut;have hp:=yF.out _ _ (show Sat W wc (sep X (sep (dM P (V 11)) (kn J))) by have h9:=hcut;simpa only[aA,ay,aj] using h9);have k0:=(au hp 0 _ rfl).1;clear hcut hp H5 HYC HPW Jm
   go_upto_block 2 with (fail)
   clear k0
   go_cut [] from 7 to 91 (fun wx=>∃J2:Mem,Hid (Mem.le J J2)∧Sat W wx (sep (dM P (V 11++iE x)) (sep (kn J2) X)))
   case first=>
    as_aux_lemma=>
    by_cases hk0:z.k=0
    ·have hkb:(z.k==0)=true:=by simpa using hk0
     have hxk:x.k=0:=by rw[←HX.out.1.k];exact hk0
     have adP:=HV8.out hxk;have Yx:iE x=encR (jE x.td x.tc)++PA.encI (x.ea.length:Int)++kQ x.ea:=by unfold iE;rw[if_pos hxk]
     obtain⟨ne,hne⟩:=aB (z.ea.n);have Df:ne=x.ea.length:=by rw[hne];exact (aI HX.out.1.ea).1
     obtain⟨V1,hV1⟩:=aB (V 11++encR (jE x.td x.tc));obtain⟨U,hU⟩:∃U:Nat→List UInt8,U=fun k=>V1++PA.encI (ne:Int)++((x.ea.take k).map oJ).flatten:=⟨_,rfl⟩
     have hU0:V1++PA.encI (ne:Int)=U 0:=by rw[hU];simp
     have hUs:∀k e,x.ea[k]?=some e→U (k+1)=U k++PA.encI e.file++PA.encI e.day:=fun k e he=>by
      rw[hU];simp only;rw[mM oJ he];unfold oJ;simp only[List.append_assoc]
     have hUn:U ne=V 11++iE x:=by
      rw[hU,Yx,hV1];simp only;rw[Df,List.take_length];simp only[List.append_assoc];rfl
     have Ah:=HVV.out.2.2.2.1 11;have h3:=iO (mJ HX.out.2.2.lt) (by omega);have abr:V1.length≤268436000:=by rw[hV1,dF];omega
     have hUl:∀k,(U k).length≤268437000:=fun k=>by
      rw[hU];simp only[dF];have h1:=uO oJ x.ea k;have h2:=Cc HX.out.2.2.ea;unfold kQ at h2;have h4:=dY (r:=(ne:Int)) (by omega) (by omega);omega
     have Qm:=ah (And.intro hU0 (And.intro hUs (And.intro hUn (And.intro hUl (And.intro hV1 (And.intro abr Df))))));have Vu:=ah hne;have hp:=yF.out _ _ (show Sat W wc (sep X (sep (dM P (V 11)) (kn J))) by have h9:=H6.out;simpa only[aA,ay,aj] using h9);have k11:=(au hp 11 _ rfl).1;have k12:=(au hp 12 _ rfl).1;have hde:=EX z.td.a z.td.n z.td.c z.tc.a z.tc.n z.tc.c x.td x.tc ((rF.slice 4).mono jr.out HX.out.1.td) ((kM.slice 5).mono jr.out HX.out.1.tc) HX.out.2.1.td HX.out.2.1.tc HX.out.2.2.td HX.out.2.2.tc HX.out.2.2.lt HX.out.2.2.ltc (show Sat W wc (sep (kn J) (sep (dM P (V 11)) X)) from H6.out.p1);obtain⟨te,hte⟩:=aB (ED x.td x.tc);rw[←hte] at hde;have HDE:=ah hde;have aho:(ne:Int)≤8:=by omega
     clear hk0 hxk adP Yx hne Df hV1 hU hU0 hUs hUn Ah h3 abr hUl hp hde hte H6
     go_wp2_with fail
     refine HDE.out.mono ?_;rintro e w5 ⟨fb,fl,fc,J2,rfl,hle2,Di,h7⟩;have hwr:=ng P (V 11) (.slice fb fl fc) (jE x.td x.tc) (show Sat W w5 (sep (dM P (V 11)) (sep (kn J2) X)) from h7.p1) Di (by have:=HVV.out.2.2.2.1 11;omega) (by have:=mJ HX.out.2.2.lt;omega);rw[←Qm.out.2.2.2.2.1] at hwr;have Jp:=ah hwr;have HL2:=ah hle2;clear h7 hle2 Di hwr HDE k11 k12
     go_wp2_with fail
     refine Jp.out.mono ?_;rintro e w6 ⟨rfl,h8⟩;have hp:=yF.out _ _ (show Sat W w6 (sep X (sep (dM P V1) (kn J2))) by simpa only[aA,ay,aj] using h8);have k14:w6.cell? ⟨B,14,none⟩=some (.slice z.ea.a ne z.ea.c):=by rw[Vu.out];exact (au hp 14 _ rfl).1
     have hw:=iJ P V1 (ne:Int) (by omega) (by omega) h8 (by have:=Qm.out.2.2.2.2.2.1;omega);rw[Qm.out.1] at hw;have Jo:=ah hw;clear h8 hp hw Jp
     go_wp2_with fail
     refine Jo.out.mono ?_;rintro e w7 ⟨rfl,h9⟩;clear k14;have hp:=yF.out _ _ (show Sat W w7 (sep X (sep (dM P (U 0)) (kn J2))) by simpa only[aA,ay,aj] using h9);have k14:w7.cell? ⟨B,14,none⟩=some (.slice z.ea.a ne z.ea.c):=by rw[Vu.out];exact (au hp 14 _ rfl).1
     have H9:=ah h9;clear h9 hp Jo
     go_upto_block 3 with (fail)
     clear k14
     go_wp2_with fail
     go_loopw [70] (fun iv wr=>∃(k:Nat),iv=.int .i64 k∧k≤ne∧Sat W wr (sep (dM P (U k)) (sep (kn J2) X))) (fun iv _=>ne-(intOf iv).toNat)
     case atStart=>exact⟨0,rfl,by omega,H9.out⟩
     case round=>
      obtain⟨k,rfl,hk,hS⟩:=hrel;clear H9
      by_cases hlt:k<ne
      ·have hltz:(k:Int)<(ne:Int):=by omega
       obtain⟨ea,he⟩:∃e,x.ea[k]?=some e:=⟨_,List.getElem?_eq_getElem (by have:=Qm.out.2.2.2.2.2.2;omega)⟩
       obtain⟨b,o,hb,hcell⟩:=xG (show (MJ.slice 2).rel I [.slice z.ea.a z.ea.n z.ea.c] x.ea from HX.out.1.ea) he;obtain⟨j0,j1⟩:=hcell wr (fun g u hg=>hS.p1.ext g u (HL2.out g u (jr.out g u hg)));have h64:=HX.out.2.2.ea ea (List.mem_of_getElem? he);have hus:=Qm.out.2.1 k ea he;have yB:=Qm.out.2.2.2.1 k;obtain⟨ef,hef⟩:=aB (ea.file);obtain⟨ed,hed⟩:=aB (ea.day);rw[←hef] at j0 h64 hus;rw[←hed] at j1 h64 hus;have hAl:=hS.alloc (.cells #[.int .i64 ef,.int .i64 ed] 93);obtain⟨M,hM⟩:=aB (wr.heap.size);obtain⟨w8,hw8⟩:=aB (wr.alloc (.cells #[.int .i64 ef,.int .i64 ed] 93));rw[←hM,←hw8] at hAl;have k0:w8.cell? ⟨M,0,none⟩=some (.int .i64 ef):=hAl.cell 0;have hw:=iJ P (U k) ef h64.1.1 h64.1.2 hAl.p1 (by omega);have Jo:=ah hw;have GY:=ah (And.intro hM hw8);have HK:=ah (And.intro hlt (And.intro hus (And.intro yB h64)));rw[hb];clear he hcell h64 hus yB hef hed hAl hM hw8 hw hlt hk hS hb
       go_upto_region 17 with (fail)
       rw[←GY.out.1,←GY.out.2];clear j0 j1
       go_wp2_with fail
       refine Jo.out.mono ?_;rintro e w9 ⟨rfl,h10⟩;clear k0;have k1:w9.cell? ⟨M,1,none⟩=some (.int .i64 ed):=h10.p1.cell 1;have h11:Sat W w9 (sep (dM P (U k++PA.encI ef)) (sep (kn J2) X)):=h10.p1.forget;have hw:=iJ P (U k++PA.encI ef) ed HK.out.2.2.2.2.1 HK.out.2.2.2.2.2 h11 (by rw[dF];have:=HK.out.2.2.1;have:=dY HK.out.2.2.2.1.1 HK.out.2.2.2.1.2;omega);rw[←HK.out.2.1] at hw;have aa1:=ah hw;clear h10 h11 hw Jo
       go_wp2_with fail
       refine aa1.out.mono ?_;rintro e w10 ⟨rfl,h12⟩;have H12:=ah h12;clear h12 k1 aa1
       go_wp2
       go_roundw
       case rel=>exact⟨k+1,by go_num,by have:=HK.out.1;omega,H12.out⟩
       case measure=>simp[intOf];have:=HK.out.1;omega
      ·obtain rfl:k=ne:=by omega
       have hS2:=hS;rw[Qm.out.2.2.1] at hS2;have Fh:=ah hS2;clear hS hS2 hlt hk
       go_wp2
       go_meet
       case rel=>exact⟨J2,ah HL2.out,Fh.out⟩
    ·have hkb:(z.k==0)=false:=by simpa using hk0
     by_cases QS:z.k=19
     ·have hkc:(z.k==19)=true:=by simpa using QS
      have hxk:x.k=19:=by rw[←HX.out.1.k];exact QS
      have Yx:V 11++iE x=V 11++encR (gu x.fx):=by unfold iE;rw[if_neg (by rw[hxk];decide),if_pos hxk]
      have hp:=yF.out _ _ (show Sat W wc (sep X (sep (dM P (V 11)) (kn J))) by have h9:=H6.out;simpa only[aA,ay,aj] using h9);have k15:=(au hp 15 _ rfl).1;have k16:=(au hp 16 _ rfl).1;have k17:=(au hp 17 _ rfl).1;have k18:=(au hp 18 _ rfl).1;have hfe:=pF x.fx z.fo z.fn z.fi.a z.fi.n z.fi.c z.fk.a z.fk.n z.fk.c (rF.mono jr.out HX.out.1.fx) HX.out.2.1.fx HX.out.2.2.fx.b64 (show Sat W wc (sep (kn J) (sep (dM P (V 11)) X)) from H6.out.p1);obtain⟨te,hte⟩:=aB (jV x.fx);rw[←hte] at hfe;have vY:=ah hfe;have HKE:=ah Yx;clear hk0 QS hxk Yx hp hfe hte H6
      go_wp2_with fail
      refine vY.out.mono ?_;rintro e w5 ⟨fb,fl,fc,J2,rfl,hle2,Di,h7⟩;have hwr:=ng P (V 11) (.slice fb fl fc) (gu x.fx) (show Sat W w5 (sep (dM P (V 11)) (sep (kn J2) X)) from h7.p1) Di (by have:=HVV.out.2.2.2.1 11;omega) (by have:=kC HX.out.2.2.fx.bl;omega);rw[←HKE.out] at hwr;have Jp:=ah hwr;have HL2:=ah hle2;clear h7 hle2 Di hwr vY k15 k16 k17 k18
      go_wp2_with fail
      refine Jp.out.mono ?_;rintro e w6 ⟨rfl,h8⟩;have H8:=ah h8;clear h8 Jp
      go_wp2
      go_meet
      case rel=>exact⟨J2,ah HL2.out,H8.out⟩
     ·have hkc:(z.k==19)=false:=by simpa using QS
      have Yx:V 11++iE x=V 11:=by unfold iE;rw[if_neg (by rw[←HX.out.1.k];exact hk0),if_neg (by rw[←HX.out.1.k];exact QS),List.append_nil]
      have HKE:=ah Yx;clear hk0 QS Yx
      go_wp2
      go_meet
      case rel=>exact⟨J,ah (Mem.le_refl _),by rw[HKE.out];exact H6.out⟩
   case rest=>
    as_aux_lemma=>
    obtain⟨J2,HJ2,hS⟩:=hcut;have hp:=yF.out _ _ (show Sat W wc (sep X (sep (dM P (V 11++iE x)) (kn J2))) by simpa only[aA,ay,aj] using hS);obtain⟨nc,hnc⟩:=aB (z.cl.n);have WS:nc=x.cl.length:=by rw[hnc];exact (aI HX.out.1.cl).1
    have k13:wc.cell? ⟨B,13,none⟩=some (.slice z.cl.a nc z.cl.c):=by rw[hnc];exact (au hp 13 _ rfl).1
    have hn63:(nc:Int)≤9223372036854775807:=by rw[hnc];exact (aI HX.out.1.cl).2.2
    have aaE:Hid (∀w' J' a5 c5 Z,Sat W w' (sep (aT 5 1 a5 E.length c5 (E.map bv)) (sep (dM P Z) (sep (kn J') X)))→∃J3,Mem.le J' J3∧bT.rel J3 [.slice a5 E.length c5] E∧Sat W w' (sep (kn J3) A)):=ah fun w' J' a5 c5 Z h'=>by
     have h2:Sat W w' (sep (aT 5 1 a5 E.length c5 (E.map bv)) (sep (kn J') X)):=Ez h'.p1;obtain⟨J3,hle3,hr3,h7⟩:=iy h2 rfl;refine⟨J3,hle3,hr3,?_⟩;have h8:Sat W w' (sep X (kn J3)):=by rw[aA];exact h7
     have h9:=(yF.out w' (kn J3) h8).forget;rw[aA];exact h9
    have HLJ:Hid (Mem.le I J2):=ah (eG jr.out HJ2.out)
    by_cases n0:nc=0
    ·subst n0
     have hac:E=V 11++iE x:=by
      rw[HVV.out.2.2.1];unfold sZ;rw[if_pos (List.eq_nil_of_length_eq_zero WS.symm),List.append_nil]
     have hS2:=hS;rw[←hac] at hS2;have HD:=ah (oq P E hS2 (by have:=HVV.out.2.2.2.2;omega));clear hS hS2 hp hnc WS hac H6
     go_wp2_with fail
     refine HD.out.mono ?_;rintro e w5 ⟨a5,c5,rfl,h5⟩;obtain⟨J3,hle3,hr3,h7⟩:=aaE.out w5 J2 a5 c5 E h5;have HF:=ah (And.intro (eG HLJ.out hle3) (And.intro hr3 h7));clear h5 hle3 hr3 h7 HD k13
     go_wp2
     rw[bI.out];exact⟨a5,E.length,c5,J3,rfl,HF.out.1,HF.out.2.1,HF.out.2.2⟩
    ·have n0z:(0:Int)<(nc:Int):=by omega
     have hac:E=(V 11++iE x)++encR (gU x.cl):=by
      rw[HVV.out.2.2.1];unfold sZ;rw[if_neg (fun e=>n0 (by rw[WS,e];rfl))]
     have hce:=vO z.cl.a nc z.cl.c x.cl (by rw[hnc];exact (kM.slice 5).mono HLJ.out HX.out.1.cl) HX.out.2.1.cl HX.out.2.2.cl HX.out.2.2.lcl (show Sat W wc (sep (kn J2) (sep (dM P (V 11++iE x)) X)) from hS.p1);obtain⟨cv,hcv⟩:=aB (pR x.cl);rw[←hcv] at hce;have EI:=ah hce;have HAC:=ah hac;clear hS hp hnc WS hac H6 hce hcv n0
     go_wp2_with fail
     refine EI.out.mono ?_;rintro e w5 ⟨fb,fl,fc,J3,rfl,hle3,J8,h7⟩;have hbl:(V 11++iE x).length≤268436200:=by rw[dF];have:=HVV.out.2.2.2.1 11;have:=HKD.out;omega
     have hwr:=ng P (V 11++iE x) (.slice fb fl fc) (gU x.cl) (show Sat W w5 (sep (dM P (V 11++iE x)) (sep (kn J3) X)) from h7.p1) J8 (by omega) (by have:=jc HX.out.2.2.lcl;omega);rw[←HAC.out] at hwr;have Jp:=ah hwr;have Y4:=ah hle3;clear h7 hle3 J8 hwr EI k13 hbl
     go_wp2_with fail
     refine Jp.out.mono ?_;rintro e w6 ⟨rfl,h8⟩;have HD:=ah (oq P E h8 (by have:=HVV.out.2.2.2.2;omega));clear h8 Jp
     go_wp2_with fail
     refine HD.out.mono ?_;rintro e w7 ⟨a5,c5,rfl,h5⟩;obtain⟨J4,lN,hr4,h9⟩:=aaE.out w7 J3 a5 c5 E h5;have HF:=ah (And.intro (eG HLJ.out (eG Y4.out lN)) (And.intro hr4 h9));clear h5 lN hr4 h9 HD
     go_wp2
     rw[bI.out];exact⟨a5,E.length,c5,J4,rfl,HF.out.1,HF.out.2.1,HF.out.2.2⟩
end Go.Proofs.YthfmaclnccdcbaaGreatDoor
namespace PA
open Go Go.RowKit
def jK:List UInt8→List UInt8→Int
 | [],[]=>0
 | [],_::_=>-1
 | _::_,[]=>1
 | a::x,b::y=>if a.toNat<b.toNat then -1 else if b.toNat<a.toNat then 1 else jK x y
theorem Dn:∀(x y:List UInt8) (k:Int),qR (oC x y++[((x.length:Int)+k,(y.length:Int)+k)])=jK x y
 | [],[],k=>by simp[oC,qR,jK]
 | [],b::y,k=>by
  have h:(0:Int)+k<((y.length+1:Nat):Int)+k:=by omega
  simp only[oC,List.zipWith,List.nil_append,qR,jK,List.length_nil,List.length_cons];rw[if_pos (by simpa using h)]
 | a::x,[],k=>by
  have h:(0:Int)+k<((x.length+1:Nat):Int)+k:=by omega
  simp only[oC,List.zipWith,List.nil_append,qR,jK,List.length_nil,List.length_cons];rw[if_neg (by simp only[Int.natCast_zero];omega),if_pos (by simpa using h)]
 | a::x,b::y,k=>by
  have ih:=Dn x y (k+1);have e1:((x.length:Int)+(k+1))=((a::x).length:Int)+k:=by rw[List.length_cons];push_cast;omega
  have e2:((y.length:Int)+(k+1))=((b::y).length:Int)+k:=by rw[List.length_cons];push_cast;omega
  rw[e1,e2] at ih;have ez:oC (a::x) (b::y)=(((a.toNat:Nat):Int),((b.toNat:Nat):Int))::oC x y:=rfl;rw[ez,List.cons_append,qR,ih,jK];simp only[Int.ofNat_lt]
theorem Wq (x y:Pa):o9 x y=if x.d<y.d then -1 else if y.d<x.d then 1 else if x.n<y.n then -1 else if y.n<x.n then 1 else jK (gZ x) (gZ y):=by
 have h:=Dn (gZ x) (gZ y) 0;simp only[Int.add_zero] at h;unfold o9 keysB;rw[List.append_assoc];simp only[List.cons_append,List.nil_append,qR,h]
theorem Nr {x y:List UInt8} {k:Nat} {u v:UInt8} (h1:x[k]?=some u) (h2:y[k]?=some v):jK (x.drop k) (y.drop k)=if u.toNat<v.toNat then -1 else if v.toNat<u.toNat then 1 else jK (x.drop (k+1)) (y.drop (k+1)):=by
 obtain⟨i1,rfl⟩:=List.getElem?_eq_some_iff.1 h1;obtain⟨i2,rfl⟩:=List.getElem?_eq_some_iff.1 h2;rw[List.drop_eq_getElem_cons i1,List.drop_eq_getElem_cons i2,jK]
def Hl (a b:Nat):Int:=if a<b then -1 else if b<a then 1 else 0
end PA
namespace Go.Proofs.YthfmaclnccdcbaaGreatDoor
open Go.RowKit PA
theorem jQ (x:Nat) (w:World):Calls Tryz.prog 170 #[.int .u8 (x:Nat)] w fun e w'=>e=.returned (.bool false)∧w=w':=by
 go_enter Tryz.func170,Tryz.ntmps170
 go_wp2
 go_ret
 exact⟨rfl,rfl⟩
theorem EP (x y:Nat) (w:World):Calls Tryz.prog 125 #[.int .u8 (x:Nat),.int .u8 (y:Nat)] w fun e w'=>e=.returned (.int .i64 (Hl x y))∧w=w':=by
 obtain⟨r,hr⟩:=aB (Hl x y);rw[←hr];have HR:=ah hr;clear hr;have key:∀(hx:(decide ((x:Int)<(y:Int)))=decide (x<y)),True:=fun _=>trivial
 by_cases c1:x<y
 ·have c1z:(x:Int)<(y:Int):=by omega
  have HF:Hid (r=-1):=ah (by rw[HR.out];unfold Hl;rw[if_pos c1]);clear c1 key
  go_enter Tryz.func125,Tryz.ntmps125
  go_wp2_with fail
  refine (jQ x w).mono ?_;rintro e w' ⟨rfl,rfl⟩
  go_wp2_with fail
  refine (jQ y w).mono ?_;rintro e w' ⟨rfl,rfl⟩
  go_wp2
  go_ret
  exact⟨by rw[HF.out];rfl,rfl⟩
 ·have c1z:¬(x:Int)<(y:Int):=by omega
  by_cases c2:y<x
  ·have c2z:(y:Int)<(x:Int):=by omega
   have HF:Hid (r=1):=ah (by rw[HR.out];unfold Hl;rw[if_neg c1,if_pos c2]);clear c1 c2 key
   go_enter Tryz.func125,Tryz.ntmps125
   go_wp2_with fail
   refine (jQ x w).mono ?_;rintro e w' ⟨rfl,rfl⟩
   go_wp2_with fail
   refine (jQ y w).mono ?_;rintro e w' ⟨rfl,rfl⟩
   go_wp2
   go_ret
   exact⟨by rw[HF.out];rfl,rfl⟩
  ·have HF:Hid (r=0):=ah (by rw[HR.out];unfold Hl;rw[if_neg c1,if_neg c2])
   obtain rfl:x=y:=by omega
   clear c1 c2 key c1z
   go_enter Tryz.func125,Tryz.ntmps125
   go_wp2_with fail
   refine (jQ x w).mono ?_;rintro e w' ⟨rfl,rfl⟩
   go_wp2_with fail
   refine (jQ x w).mono ?_;rintro e w' ⟨rfl,rfl⟩
   go_wp2
   go_ret
   exact⟨by rw[HF.out];rfl,rfl⟩
set_option maxHeartbeats 4000000 in
theorem ER {W w:World} {A:aC} {I:Mem} (a b:Option Addr) (n m c d:Nat) (X Y:List UInt8) (ha:bT.rel I [.slice a n c] X) (hb:bT.rel I [.slice b m d] Y) (h:Sat W w (sep (kn I) A)):
 Calls Tryz.prog 70 #[.slice a n c,.slice b m d] w fun e w'=>e=.returned (.int .i64 (jK X Y))∧Sat W w' (sep (kn I) A):=by
 obtain⟨hn,h63,ha'⟩:=uG ha;obtain⟨hm,m63,hb'⟩:=uG hb;obtain⟨r,hr⟩:=aB (jK X Y);rw[←hr];have HN:=ah (And.intro hn hm);have HR:Hid (r=jK (X.drop 0) (Y.drop 0)):=ah hr;have HAB:=ah (And.intro ha' hb');have H:=ah h;clear ha hb hn hm ha' hb' h hr
 go_enter Tryz.func70,Tryz.ntmps70
 go_wp2_with fail
 go_loopw [11] (fun kv wr=>∃k:Nat,kv=.int .i64 k∧k≤n∧k≤m∧Hid (r=jK (X.drop k) (Y.drop k))∧Sat W wr (sep (kn I) A)) (fun kv _=>n-(intOf kv).toNat)
 case atStart=>exact⟨0,rfl,by omega,by omega,HR,H.out⟩
 case round=>
  obtain⟨k,rfl,hk,hkm,HT,hS⟩:=hrel;clear H HR
  by_cases hlt:k<n
  ·have hltz:(k:Int)<(n:Int):=by omega
   obtain⟨u,hu⟩:∃u,X[k]?=some u:=⟨_,List.getElem?_eq_getElem (by have:=HN.out.1;omega)⟩
   obtain⟨b1,o1,rfl,hc1⟩:=HAB.out.1 k u hu;have j1:=hc1 wr hS.ext;unfold bv at j1
   by_cases hlm:k<m
   ·have abK:(k:Int)<(m:Int):=by omega
    obtain⟨v,hv⟩:∃v,Y[k]?=some v:=⟨_,List.getElem?_eq_getElem (by have:=HN.out.2;omega)⟩
    obtain⟨b2,o2,rfl,hc2⟩:=HAB.out.2 k v hv;have j2:=hc2 wr hS.ext;unfold bv at j2;have ht:=HT.out;rw[Nr hu hv] at ht;obtain⟨x,hx⟩:∃x:Nat,x=u.toNat:=⟨_,rfl⟩
    obtain⟨y,hy⟩:∃x:Nat,x=v.toNat:=⟨_,rfl⟩
    rw[←hx] at j1 ht;rw[←hy] at j2 ht;have HC:=ah (fun w'=>EP x y w');obtain⟨cv,hcv⟩:=aB (Hl x y);rw[←hcv] at HC;have Qk:=ah (And.intro hcv ht);have HK:=ah (And.intro hlt hlm);have HS:=ah hS;clear hu hc1 hc2 hx hlt hk hS hv hy hkm hlm ht hcv HT
    go_wp2_with fail
    refine (HC.out _).mono ?_;rintro e w2 ⟨rfl,rfl⟩;clear j1 j2 HC
    by_cases c0:cv=0
    ·have HT2:Hid (r=jK (X.drop (k+1)) (Y.drop (k+1))):=ah (by
      obtain⟨h1,h2⟩:=Qk.out;rw[c0] at h1;unfold Hl at h1;split at h1
      ·cases h1
      ·split at h1
       ·cases h1
       ·rename_i g1 g2
        rw[h2,if_neg g1,if_neg g2])
     subst c0
     go_wp2_with fail
     go_roundw
     case rel=>exact⟨k+1,by go_num,by have:=HK.out;omega,by have:=HK.out;omega,HT2,HS.out⟩
     case measure=>simp[intOf];have:=HK.out;omega
    ·have c1:(cv !=0)=true:=by simpa using c0
     have HF:Hid (r=cv):=ah (by
      obtain⟨h1,h2⟩:=Qk.out;rw[h2,h1];unfold Hl;split
      ·rfl
      ·split
       ·rfl
       ·rename_i g1 g2
        exfalso;apply c0;rw[h1];unfold Hl;rw[if_neg g1,if_neg g2])
     clear c0
     go_wp2
     go_ret
     exact⟨by (rw[HF.out];try rfl),HS.out⟩
   ·obtain rfl:k=m:=by omega
    have HF:Hid (r=1):=ah (by
     rw[HT.out,List.drop_of_length_le (l:=Y) (by have:=HN.out.2;omega)];obtain⟨i1,-⟩:=List.getElem?_eq_some_iff.1 hu;rw[List.drop_eq_getElem_cons i1,jK])
    have HS:=ah hS;clear hu hc1 hlt hk hS hkm hlm HT
    go_wp2
    go_ret
    exact⟨by (rw[HF.out];try rfl),HS.out⟩
  ·obtain rfl:k=n:=by omega
   have HS:=ah hS
   by_cases hlm:k<m
   ·have abK:(k:Int)<(m:Int):=by omega
    have HF:Hid (r=-1):=ah (by
     rw[HT.out,List.drop_of_length_le (l:=X) (by have:=HN.out.1;omega),List.drop_eq_getElem_cons (l:=Y) (by have:=HN.out.2;omega),jK])
    clear hS hlt hk hkm hlm HT
    go_wp2
    go_ret
    exact⟨by (rw[HF.out];try rfl),HS.out⟩
   ·have abK:¬(k:Int)<(m:Int):=by omega
    have HF:Hid (r=0):=ah (by
     rw[HT.out,List.drop_of_length_le (l:=X) (by have:=HN.out.1;omega),List.drop_of_length_le (l:=Y) (by have:=HN.out.2;omega),jK])
    clear hS hlt hk hkm hlm HT
    go_wp2
    go_ret
    exact⟨by (rw[HF.out];try rfl),HS.out⟩
attribute [local go_sem ↓] bW dB aY
set_option maxRecDepth 100000 in
set_option maxHeartbeats 8000000 in
theorem tZ {W w:World} {A:aC} {I:Mem} (hW:jv W) (z y:Ac) (x t:Pa) (hA:kX I z x) (hz:SzM x) (hE:kK x) (hA2:kX I y t) (hz2:SzM t) (hE2:kK t) (h:Sat W w (sep (kn I) A)):
 Calls Tryz.prog 21 #[.agg z.cells.toArray,.agg y.cells.toArray] w fun e w'=>∃J,e=.returned (.int .i64 (o9 x t))∧Mem.le I J∧Sat W w' (sep (kn J) A):=by
 obtain⟨r,hr⟩:=aB (o9 x t);rw[←hr];have h1:=(h.alloc (.cells z.cells.toArray 36)).alloc (.cells y.cells.toArray 36);rw[World.size_alloc] at h1;obtain⟨B,hB⟩:=aB (w.heap.size);obtain⟨w1,hw1⟩:=aB ((w.alloc (.cells z.cells.toArray 36)).alloc (.cells y.cells.toArray 36));rw[←hB,←hw1] at h1;obtain⟨X,hX⟩:=aB (sep (blk (B+1) (.cells y.cells.toArray 36 (0,0))) (sep (blk B (.cells z.cells.toArray 36 (0,0))) A));have h2:Sat W w1 (sep (kn I) X):=by rw[hX];simpa only[aA,ay,aj] using h1
 have HX:Hid (∀w' Y,Sat W w' (sep X Y)→((w'.cell? ⟨B,1,none⟩=some (.int .i64 z.d)∧w'.cell? ⟨B+1,1,none⟩=some (.int .i64 y.d))∧w'.cell? ⟨B,2,none⟩=some (.int .i64 z.n)∧w'.cell? ⟨B+1,2,none⟩=some (.int .i64 y.n))∧Sem.run Tryz.prog (jA (.pointer (some ⟨B,0,none⟩))) w'=.ok (.agg z.cells.toArray) w'∧Sem.run Tryz.prog (jA (.pointer (some ⟨B+1,0,none⟩))) w'=.ok (.agg y.cells.toArray) w'):=ah fun w' Y h'=>by
  rw[hX] at h';simp only[aj] at h';have h9:=h'.p1;exact⟨⟨⟨(au h9 1 _ rfl).1,(au h' 1 _ rfl).1⟩,(au h9 2 _ rfl).1,(au h' 2 _ rfl).1⟩,gB h9,gB h'⟩
 have HXA:Hid (∀w' J,Sat W w' (sep (kn J) X)→Sat W w' (sep (kn J) A)):=ah fun w' J h'=>by
  rw[hX] at h';have h9:Sat W w' (sep (blk (B+1) (.cells y.cells.toArray 36 (0,0))) (sep (blk B (.cells z.cells.toArray 36 (0,0))) (sep (kn J) A))):=by simpa only[aA,ay,aj] using h'
  exact h9.forget.forget
 have HR:Hid (r=if qM z.d y.d≠0 then qM z.d y.d else if qM z.n y.n≠0 then qM z.n y.n else jK (gZ x) (gZ t)):=ah (by
  rw[hr,Wq,hA.d,hA.n,hA2.d,hA2.n];unfold qM
  repeat' split
  all_goals first|rfl|omega|contradiction|skip)
 obtain⟨a1,ha1⟩:=aB (qM z.d y.d);obtain⟨a2,ha2⟩:=aB (qM z.n y.n);have hc1:=oI z.d y.d;have hc2:=oI z.n y.n;rw[←ha1] at hc1;rw[←ha2] at hc2;rw[←ha1,←ha2] at HR;have GV:=ah hc1;have HC2:=ah hc2;have Z7:=ah (And.intro hA (And.intro hz (And.intro hE (And.intro hA2 (And.intro hz2 hE2)))));have HB:=ah hB;have HW1:=ah hw1;have hd:=h2.drew;obtain⟨wd,hwd⟩:=aB (w1.drew);rw[←hwd] at hd;obtain⟨⟨⟨k0,k1⟩,hS0⟩,-⟩:=HX.out wd _ (show Sat W wd (sep X (kn I)) by rw[aA];exact hd);have oD:=ah hwd;have HD:=ah hd;obtain⟨Po,dU⟩:∃P:Ending→World→Prop,P=fun e w'=>∃J,e=.returned (.int .i64 r)∧Mem.le I J∧Sat W w' (sep (kn J) A):=⟨_,rfl⟩
 rw[←dU];have bI:=ah dU;clear hB hw1 h h1 h2 hr ha1 ha2 hc1 hc2 hwd hd hX hA hz hE hA2 hz2 hE2 dU
 go_enter Tryz.func21,Tryz.ntmps21
 go_upto_region 1 with (fail)
 simp only[←HB.out,←HW1.out];refine aG rfl (fun w'=>w'.cell? ⟨B,2,none⟩=some (.int .i64 z.n)∧w'.cell? ⟨B+1,2,none⟩=some (.int .i64 y.n)) [(0,.p),(1,.t),(2,.p),(3,.t),(5,.p),(6,.s),(7,.p),(8,.s),(4,.e true),(9,.e false),(10,.e false),(11,.e false),(12,.p)] (by kernel_rfl) ?_;rw[←oD.out];refine bF ?_
 (refine jH rfl rfl (fun K hK=>?_);go_simp)
 refine (GV.out wd).mono ?_;rintro e w' ⟨rfl,rfl⟩
 (refine hK _ _ (fun _=>hS0) ?_;clear hK K;(try simp only[Act.put,lsA,lsB,kJ]))
 clear k0 k1 hS0
 (refine jH rfl rfl (fun K hK=>?_);go_simp)
 refine (HC2.out wd).mono ?_;rintro e w' ⟨rfl,rfl⟩;refine dQ ?_;clear hK K
 (refine jH rfl rfl (fun K hK=>?_);go_simp)
 refine dQ ?_;clear hK K
 (refine jH rfl rfl (fun K hK=>?_);go_simp)
 refine (BQ a1 a2 _ (HD.out.alloc (.cells #[.int .i64 a1,.int .i64 a2] 3))).mono ?_;rintro e w3 ⟨rfl,h3⟩;obtain⟨co,hco⟩:∃c:Int,c=if a1≠0 then a1 else a2:=⟨_,rfl⟩
 rw[←hco];have HCO:=ah hco;have H3:=ah h3;clear hco h3 HD;refine dQ ?_;clear hK K;refine bF ?_;refine dN ?_
 by_cases hz:co=0
 ·have hzb:(co !=0)=false:=by simpa using hz
  have HR2:Hid (r=jK (gZ x) (gZ t)):=ah (by
   have h1:=HCO.out;rw[hz] at h1;have e1:a1=0:=Classical.byContradiction fun hne=>by rw[if_pos hne] at h1;exact hne h1.symm
   rw[if_neg (by simp[e1])] at h1;rw[HR.out,if_neg (by simp[e1]),if_neg (by simp[←h1])])
  obtain⟨-,WR,-⟩:=HX.out w3 _ (show Sat W w3 (sep X (kn I)) by rw[aA];exact H3.out);have he1:=vN hW z x Z7.out.1 Z7.out.2.1 Z7.out.2.2.1 H3.out;obtain⟨v1,hv1⟩:∃v:Int,v=if aZ x=true then 0 else 1:=⟨_,rfl⟩
  rw[←hv1] at he1;have HE1:=ah he1;clear he1 hv1 hz GV HC2 HCO HR H3
  go_wp2_with fail
  refine HE1.out.mono ?_;rintro e w4 ⟨b1,m1,d1,J1,rfl,hle1,abQ,h4⟩;obtain⟨-,-,NR⟩:=HX.out w4 _ (show Sat W w4 (sep X (kn J1)) by rw[aA];exact h4);have he2:=vN hW y t (Z7.out.2.2.2.1.mono hle1) Z7.out.2.2.2.2.1 Z7.out.2.2.2.2.2 h4;obtain⟨v2,hv2⟩:∃v:Int,v=if aZ t=true then 0 else 1:=⟨_,rfl⟩
  rw[←hv2] at he2;have HE2:=ah he2;have Vt:=ah (And.intro hle1 abQ);clear h4 hle1 abQ he2 hv2 HE1 WR
  go_wp2_with fail
  refine HE2.out.mono ?_;rintro e w5 ⟨b2,m2,d2,J2,rfl,hle2,Di,h5⟩;have hcb:=ER b1 b2 m1 m2 d1 d2 (gZ x) (gZ t) (bT.mono hle2 Vt.out.2) Di h5;rw[←HR2.out] at hcb;have HCB:=ah hcb;have HL2:=ah (eG Vt.out.1 hle2);clear h5 hle2 Di hcb HE2 NR
  go_wp2_with fail
  refine HCB.out.mono ?_;rintro e w6 ⟨rfl,h6⟩;have H6:=ah (HXA.out _ _ h6);clear h6 HCB
  go_wp2
  rw[bI.out];exact⟨J2,rfl,HL2.out,H6.out⟩
 ·have hzb:(co !=0)=true:=by simpa using hz
  have HF:Hid (r=co):=ah (by
   rw[HR.out,HCO.out]
   by_cases e1:a1=0
   ·have e2:a2≠0:=fun e2=>hz (by rw[HCO.out,if_neg (by simp[e1]),e2])
    rw[if_neg (by simp[e1]),if_pos e2,if_neg (by simp[e1])]
   ·rw[if_pos e1,if_pos e1])
  have H4:=ah (HXA.out _ _ H3.out);clear hz H3
  go_wp2
  rw[bI.out];exact⟨I,by (rw[HF.out];try rfl),Mem.le_refl _,H4.out⟩
end Go.Proofs.YthfmaclnccdcbaaGreatDoor

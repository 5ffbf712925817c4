/- Part of a proof. -/
import Derived.Test.YthfmaclnccdcbaaGreatDoorZFO23
import Derived.LaidMore
import Derived.Stop.Joined
namespace PA
open Go Go.RowKit
theorem ZE (a b c:BitVec 64):(((a ||| b) &&& c)==0#64)=((a &&& c==0#64)&&(b &&& c==0#64)):=by
 rw[Bool.eq_iff_iff];simp only[beq_iff_eq,Bool.and_eq_true];constructor
 ·intro h
  constructor<;>(apply BitVec.eq_of_getLsbD_eq;intro i hi;have:=congrArg (fun x=>x.getLsbD i) h;simp at this ⊢;grind)
 ·intro ⟨h1,h2⟩
  apply BitVec.eq_of_getLsbD_eq;intro i hi;have h3:=congrArg (fun x=>x.getLsbD i) h1;have h4:=congrArg (fun x=>x.getLsbD i) h2;simp at h3 h4 ⊢;grind
theorem Zq (b:Bool) (k c:BitVec 64):(((if b=true then k else 0#64) &&& c)==0#64)=(!b||(k &&& c==0#64)):=by cases b<;>simp
def fldB (x:Pa):Nat→Bool
 | 0=>decide (x.f=0)
 | 1=>decide (x.o=0)
 | 2=>decide (x.p=0)
 | 3=>decide (x.q=0)
 | 4=>decide (x.u=0)
 | 5=>decide (x.m=0)
 | 6=>decide (x.sn=0)&&decide (x.sd=0)
 | 7=>decide (x.td.length=0)&&decide (x.tc.length=0)
 | 8=>decide (x.cl.length=0)
 | 9=>decide (x.ea.length=0)
 | _=>decide (x.fx.op=0)&&(decide (x.fx.num=0)&&(decide (x.fx.ins.length=0)&&decide (x.fx.kids.length=0)))
theorem Wh {I:Mem} {z:Ac} {f:Fm} (h:rF.rel I [.int .i64 z.fo,.int .i64 z.fn,z.fi.v,z.fk.v] f):z.fo=f.op∧z.fn=f.num∧z.fi.n=f.ins.length∧z.fk.n=f.kids.length∧z.fi.n≤maxLen∧z.fk.n≤maxLen:=by
 obtain⟨o,n,i,k⟩:=f;obtain⟨a,c,b,d,e,h1,h2⟩:=dW.1 h;simp only[Sv.v,List.cons.injEq,Value.int.injEq,Value.slice.injEq,and_true,true_and] at e;obtain⟨e1,e2,⟨-,e3,-⟩,⟨-,e4,-⟩⟩:=e;refine⟨e1,e2,e3,e4,?_,?_⟩
 ·obtain⟨a',c',cs,e5,hsw,-⟩:=h1
  rw[e3];have:=hsw.1;have:=hsw.2.1;omega
 ·obtain⟨a',c',cs,e5,hsw,-⟩:=h2
  rw[e4];have:=hsw.1;have:=hsw.2.1;omega
theorem bB_fld {I:Mem} {z:Ac} {x:Pa} (h:lT I z x) (hl:x.td.length+x.tc.length+x.fx.ins.length+x.fx.kids.length≤4000000) (i:Nat):bB z i=!fldB x i:=by
 obtain⟨f1,f2,f3,f4,-,-⟩:=Wh h.fx;have t1:=(aJ h.td).1;have t2:=(aJ h.tc).1;have t3:=(aJ h.cl).1;have t4:=(aJ h.ea).1;have hi:∀n:Int,(n !=0)=!decide (n=0):=fun n=>by by_cases hh:n=0<;>simp[hh]
 have hj:∀n:Int,(n==0)=decide (n=0):=fun n=>by by_cases hh:n=0<;>simp[hh]
 have hw:∀a b:Nat,a≤4000000→b≤4000000→decide (0<IntKind.i64.wrap ((a:Int)+(b:Int)))=!(decide (a=0)&&decide (b=0)):=fun a b ha hb=>by
  rw[IntWalk.i64_in _ (by omega)];by_cases h1:a=0<;>by_cases h2:b=0<;>simp[h1,h2]<;>omega
 have hp:∀n:Nat,decide (0<n)=!decide (n=0):=fun n=>by by_cases hh:n=0<;>simp[hh]<;>omega
 match i with
 | 0=>show (z.f !=0)=_;rw[hi,h.f];rfl
 | 1=>show (z.o !=0)=_;rw[hi,h.o];rfl
 | 2=>show (z.p !=0)=_;rw[hi,h.p];rfl
 | 3=>show (z.q !=0)=_;rw[hi,h.q];rfl
 | 4=>show (z.u !=0)=_;rw[hi,h.u];rfl
 | 5=>show (z.m !=0)=_;rw[hi,h.m];rfl
 | 6=>show (!(z.sn==0)||!(z.sd==0))=!(decide (x.sn=0)&&decide (x.sd=0));rw[hj,hj,h.sn,h.sd];cases decide (x.sn=0)<;>rfl
 | 7=>show decide (0<IntKind.i64.wrap ((z.td.n:Int)+(z.tc.n:Int)))=!(decide (x.td.length=0)&&decide (x.tc.length=0));rw[hw _ _ (by omega) (by omega),t1,t2]
 | 8=>show decide (0<z.cl.n)=!decide (x.cl.length=0);rw[hp,t3]
 | 9=>show decide (0<z.ea.n)=!decide (x.ea.length=0);rw[hp,t4]
 | i+10=>
  show ((z.fo !=0)||((z.fn !=0)||decide (0<IntKind.i64.wrap ((z.fi.n:Int)+(z.fk.n:Int)))))=!(decide (x.fx.op=0)&&(decide (x.fx.num=0)&&(decide (x.fx.ins.length=0)&&decide (x.fx.kids.length=0))));rw[hi,hi,hw _ _ (by omega) (by omega),f1,f2,f3,f4];cases decide (x.fx.op=0)<;>cases decide (x.fx.num=0)<;>rfl
def xJ (k bit:Int):Bool:=bits BinOp.and IntKind.i64 (qj.getD k.toNat 0) bit !=0
theorem Wy (k:Int) (h:0≤k∧k≤21):xJ k 1=bT k∧xJ k 2=decide (k=0∨k=20∨k=21)∧xJ k 4=decide (k=0∨k=4∨k=5∨k=12∨k=14∨k=16∨k=17):=by
 have key:∀n:Fin 22,xJ ((n.1:Nat):Int) 1=bT ((n.1:Nat):Int)∧xJ ((n.1:Nat):Int) 2=decide (((n.1:Nat):Int)=0∨((n.1:Nat):Int)=20∨((n.1:Nat):Int)=21)∧xJ ((n.1:Nat):Int) 4=decide (((n.1:Nat):Int)=0∨((n.1:Nat):Int)=4∨((n.1:Nat):Int)=5∨((n.1:Nat):Int)=12∨((n.1:Nat):Int)=14∨((n.1:Nat):Int)=16∨((n.1:Nat):Int)=17):=by decide
 obtain⟨n,rfl⟩:∃n:Nat,k=(n:Int):=⟨k.toNat,by omega⟩
 exact key ⟨n,by omega⟩
def XI (z:Ac) (x:Pa):Bool:=
 aP x.k 0 21&&(aP x.d 0 131072&&(aP x.n 0 1099511627776&&(Dz z&&((!xJ x.k 1||aP x.f 0 4095)&&((!xJ x.k 2||aP x.o 0 11)&&((!xJ x.k 4||aP x.p 1 4095)&&sG x))))))
theorem Za (x:Pa):qm x=(aP x.o 0 11&&(aP x.p 1 4095&&TN x)):=by
 unfold qm TN;cases aP x.o 0 11<;>cases aP x.p 1 4095<;>cases aP x.q (-1) 4095<;>simp
 by_cases h1:x.q=x.f<;>by_cases h2:8<x.ea.length<;>by_cases h3:FT x.td x.tc=0<;>simp[h1,h2,h3]<;>omega
theorem Tj {z:Ac} (c:Int) (hc:qj.getD z.k.toNat 0=c):Dz z=(((((((((((!bB z 0||(1#64 &&& ~~~(BitVec.ofInt 64 c)==0#64))&&(!bB z 1||(2#64 &&& ~~~(BitVec.ofInt 64 c)==0#64)))&&(!bB z 2||(4#64 &&& ~~~(BitVec.ofInt 64 c)==0#64)))&&(!bB z 3||(8#64 &&& ~~~(BitVec.ofInt 64 c)==0#64)))&&(!bB z 4||(16#64 &&& ~~~(BitVec.ofInt 64 c)==0#64)))&&(!bB z 5||(32#64 &&& ~~~(BitVec.ofInt 64 c)==0#64)))&&(!bB z 6||(64#64 &&& ~~~(BitVec.ofInt 64 c)==0#64)))&&(!bB z 7||(128#64 &&& ~~~(BitVec.ofInt 64 c)==0#64)))&&(!bB z 8||(256#64 &&& ~~~(BitVec.ofInt 64 c)==0#64)))&&(!bB z 9||(512#64 &&& ~~~(BitVec.ofInt 64 c)==0#64)))&&(!bB z 10||(1024#64 &&& ~~~(BitVec.ofInt 64 c)==0#64))):=by
 unfold Dz gI;rw[hc];simp only[ZE,Zq]
set_option maxRecDepth 100000 in
set_option maxHeartbeats 4000000 in
theorem UD {I:Mem} {z:Ac} {x:Pa} (h:lT I z x) (hl:x.td.length+x.tc.length+x.fx.ins.length+x.fx.kids.length≤4000000):XI z x=bC x:=by
 have hf:=Za x;have hb:=bB_fld h hl;unfold XI bC;have hzk:=h.k;cases hk:aP x.k 0 21 with
 | false=>rfl
 | true=>
  have hk2:0≤x.k∧x.k≤21:=by simpa[aP] using hk
  clear hk;obtain⟨t1,t2,t3⟩:=Wy x.k hk2;rw[t1,t2,t3];clear t1 t2 t3;congr 1;congr 1;congr 1;obtain⟨k,d,n,f,o,p,q,u,m,sn,sd,td,tc,cl,ea,⟨fo,fn,fi,fk⟩⟩:=x;obtain hk|hk|hk|hk|hk|hk|hk|hk|hk|hk|hk|hk|hk|hk|hk|hk|hk|hk|hk|hk|hk|hk:k=0∨k=1∨k=2∨k=3∨k=4∨k=5∨k=6∨k=7∨k=8∨k=9∨k=10∨k=11∨k=12∨k=13∨k=14∨k=15∨k=16∨k=17∨k=18∨k=19∨k=20∨k=21:=by simp only at hk2;omega
  all_goals
   subst hk;rw[Tj _ (by rw[hzk])];simp only[hb,fldB,Bool.not_not];simp (decide:=true) [sG,aQ,iH,ku,bT,qj,EO,oZ,JY,nK,jB,aP,Bool.and_assoc,hf,Fm.zero,Fm.op,Fm.num,Fm.ins,Fm.kids]
  all_goals first|grind|(rw[Bool.eq_iff_iff];simp only[Bool.and_eq_true,Bool.or_eq_true,decide_eq_true_eq,Bool.not_eq_true'];constructor<;>(intro h;try omega)<;>grind)|trace_state|skip
end PA
namespace Go.Proofs.YthfmaclnccdcbaaGreatDoor
open Go.RowKit PA
theorem Aa {W w:World} {A:aB} (hW:fZ W) (B:Nat) (k f:Int) (hk0:0≤k) (hk1:k≤21) (h:Sat W w A) (hk:w.cell? ⟨B,0,none⟩=some (.int .i64 k)):
 Calls Tryz.prog 62 #[.int .i64 f,.pointer (some ⟨B,0,none⟩)] w fun e w'=>e=.returned (.bool (xJ k f))∧w=w':=by
 obtain⟨kn,rfl⟩:∃n:Nat,k=(n:Int):=⟨k.toNat,by omega⟩
 obtain⟨fr,hfr⟩:∃r,qj[kn]?=some r:=⟨_,iM (by show kn<22;omega)⟩
 have hc:w.cell? ⟨0,kn,none⟩=some (.int .i64 fr):=DL h (hW kn fr hfr);obtain⟨bf,hbf⟩:=aC (xJ (kn:Int) f);have HF:Hid (bf=(bits BinOp.and IntKind.i64 fr f !=0)):=ah (by
  rw[hbf];unfold xJ;rw[Int.toNat_natCast,List.getD_eq_getElem?_getD,hfr];rfl)
 rw[←hbf];have ajd:(kn:Int)<22:=by omega
 clear hbf hfr h;go_enter Tryz.func62,Tryz.ntmps62;go_wp2;go_ret;exact⟨by (rw[HF.out];try rfl),rfl⟩
attribute [local go_sem ↓] aY bI aV
set_option maxRecDepth 100000 in
set_option maxHeartbeats 16000000 in
theorem yS {W w:World} {A:aB} {I:Mem} (hW:fZ W) (z:Ac) (x:Pa) (hA:lT I z x) (hz:YL x) (h:Sat W w (sep (kn I) A)):
 Calls Tryz.prog 17 #[.agg z.cells.toArray] w fun e w'=>∃J,e=.returned (.int .i64 (if bC x=true then 0 else 1))∧Mem.le I J∧Sat W w' (sep (kn J) A):=by
 have h1:=(h.alloc (.cells z.cells.toArray 36)).p1;obtain⟨B,hB⟩:=aC (w.heap.size);obtain⟨w1,hw1⟩:=aC (w.alloc (.cells z.cells.toArray 36));rw[←hB,←hw1] at h1;have HB:=ah (aH hB hw1);obtain⟨rv,dQ⟩:=aC (bC x);rw[←dQ];obtain⟨b0,hb0⟩:=aC (aP z.k 0 21);obtain⟨b1,hb1⟩:=aC (aP z.d 0 131072);obtain⟨b2,hb2⟩:=aC (aP z.n 0 1099511627776);obtain⟨bm,hbm⟩:=aC (Dz z);obtain⟨g3,hg3⟩:=aC (xJ z.k 1);obtain⟨g4,hg4⟩:=aC (xJ z.k 2);obtain⟨g5,hg5⟩:=aC (xJ z.k 4);obtain⟨b3,hb3⟩:=aC (aP z.f 0 4095);obtain⟨b4,hb4⟩:=aC (aP z.o 0 11);obtain⟨b5,hb5⟩:=aC (aP z.p 1 4095);obtain⟨fm,hfm⟩:=aC (sG x);have bU:Hid (rv=(b0&&(b1&&(b2&&(bm&&((!g3||b3)&&((!g4||b4)&&((!g5||b5)&&fm)))))))):=ah (by
  rw[dQ,←UD hA hz.ln,hb0,hb1,hb2,hbm,hg3,hg4,hg5,hb3,hb4,hb5,hfm,hA.k,hA.d,hA.n,hA.f,hA.o,hA.p];rfl)
 have C0:Hid (∀w',Calls Tryz.prog 60 #[.int .i64 z.k,.int .i64 0,.int .i64 21] w' fun e w''=>e=.returned (.bool b0)∧w'=w''):=ah fun w'=>by rw[hb0];exact bJ _ _ _ w'
 have C1:Hid (∀w',Calls Tryz.prog 60 #[.int .i64 z.d,.int .i64 0,.int .i64 131072] w' fun e w''=>e=.returned (.bool b1)∧w'=w''):=ah fun w'=>by rw[hb1];exact bJ _ _ _ w'
 have C2:Hid (∀w',Calls Tryz.prog 60 #[.int .i64 z.n,.int .i64 0,.int .i64 1099511627776] w' fun e w''=>e=.returned (.bool b2)∧w'=w''):=ah fun w'=>by rw[hb2];exact bJ _ _ _ w'
 have C3:Hid (∀w',Calls Tryz.prog 60 #[.int .i64 z.f,.int .i64 0,.int .i64 4095] w' fun e w''=>e=.returned (.bool b3)∧w'=w''):=ah fun w'=>by rw[hb3];exact bJ _ _ _ w'
 have C4:Hid (∀w',Calls Tryz.prog 60 #[.int .i64 z.o,.int .i64 0,.int .i64 11] w' fun e w''=>e=.returned (.bool b4)∧w'=w''):=ah fun w'=>by rw[hb4];exact bJ _ _ _ w'
 have C5:Hid (∀w',Calls Tryz.prog 60 #[.int .i64 z.p,.int .i64 1,.int .i64 4095] w' fun e w''=>e=.returned (.bool b5)∧w'=w''):=ah fun w'=>by rw[hb5];exact bJ _ _ _ w'
 have hk:b0=true→0≤z.k∧z.k≤21:=fun e=>by rw[hb0] at e;simpa[aP] using e
 have CB:Hid (∀w' A',b0=true→Sat W w' A'→Calls Tryz.prog 61 #[.agg z.cells.toArray] w' fun e w''=>e=.returned (.bool bm)∧Sat W w'' A'):=ah fun w' A' e h'=>by rw[hbm];exact Tm hW z (hk e).1 (hk e).2 h'
 have CF:Hid (∀w' A',b0=true→Sat W w' (sep (kn I) A')→Calls Tryz.prog 63 #[.agg z.cells.toArray] w' fun e w''=>∃J,e=.returned (.bool fm)∧Mem.le I J∧Sat W w'' (sep (kn J) A')):=ah fun w' A' e h'=>by rw[hfm];exact Gw z x hA hz (hk e).1 (hk e).2 h'
 have FP:Hid (∀w',Sat W w' (sep (kn I) (sep (blk B (.cells z.cells.toArray 36 (0,0))) A))→w'.cell? ⟨B,0,none⟩=some (.int .i64 z.k)∧w'.cell? ⟨B,3,none⟩=some (.int .i64 z.f)∧w'.cell? ⟨B,4,none⟩=some (.int .i64 z.o)∧w'.cell? ⟨B,5,none⟩=some (.int .i64 z.p)∧Sem.run Tryz.prog (mg (.pointer (some ⟨B,0,none⟩))) w'=.ok (.agg z.cells.toArray) w'):=ah fun w' h'=>⟨(ay h'.p1 0 _ rfl).1,(ay h'.p1 3 _ rfl).1,(ay h'.p1 4 _ rfl).1,(ay h'.p1 5 _ rfl).1,iq h'.p1⟩
 have OJ:Hid (∀w',b0=true→Sat W w' (sep (kn I) (sep (blk B (.cells z.cells.toArray 36 (0,0))) A))→Calls Tryz.prog 62 #[.int .i64 1,.pointer (some ⟨B,0,none⟩)] w' fun e w''=>e=.returned (.bool g3)∧w'=w''):=ah fun w' e h'=>by rw[hg3];exact Aa hW B z.k 1 (hk e).1 (hk e).2 h' (FP.out w' h').1
 have HG4:Hid (∀w',b0=true→Sat W w' (sep (kn I) (sep (blk B (.cells z.cells.toArray 36 (0,0))) A))→Calls Tryz.prog 62 #[.int .i64 2,.pointer (some ⟨B,0,none⟩)] w' fun e w''=>e=.returned (.bool g4)∧w'=w''):=ah fun w' e h'=>by rw[hg4];exact Aa hW B z.k 2 (hk e).1 (hk e).2 h' (FP.out w' h').1
 have HG5:Hid (∀w',b0=true→Sat W w' (sep (kn I) (sep (blk B (.cells z.cells.toArray 36 (0,0))) A))→Calls Tryz.prog 62 #[.int .i64 4,.pointer (some ⟨B,0,none⟩)] w' fun e w''=>e=.returned (.bool g5)∧w'=w''):=ah fun w' e h'=>by rw[hg5];exact Aa hW B z.k 4 (hk e).1 (hk e).2 h' (FP.out w' h').1
 have k0:=(ay h1.p1 0 _ rfl).1;have k1:=(ay h1.p1 1 _ rfl).1;have k2:=(ay h1.p1 2 _ rfl).1;have hld:=iq h1.p1;have H1:=ah h1;have hmf:∀(fn:Fn) (first cap:Array Value) (w:World),(Instr.makeFunc fn first cap).run Tryz.prog w=.ok (.func fn first cap) w:=fun _ _ _ _=>rfl
 obtain⟨Po,dS⟩:∃P:Ending→World→Prop,P=fun e w'=>∃J,e=.returned (.int .i64 (if rv=true then 0 else 1))∧Mem.le I J∧Sat W w' (sep (kn J) A):=⟨_,rfl⟩
 rw[←dS];have bK:=ah dS;clear h h1 hB hw1 dQ hb0 hb1 hb2 hbm hg3 hg4 hg5 hb3 hb4 hb5 hfm hk dS hA hz;go_enter Tryz.func17,Tryz.ntmps17;go_upto_region 1 with fail;rw[←HB.out.1,←HB.out.2];go_wp2_with fail;refine (C0.out _).mono ?_;rintro e w2 ⟨rfl,rfl⟩;cases b0 with
 | false=>
  have HF:Hid (rv=false):=ah (by rw[bU.out];simp);go_wp2;rw[bK.out];exact⟨I,by (rw[HF.out];try rfl),bW _,H1.out.p1.drop⟩
 | true=>
  go_wp2_with fail;refine (C1.out _).mono ?_;rintro e w2 ⟨rfl,rfl⟩;cases b1 with
  | false=>
   have HF:Hid (rv=false):=ah (by rw[bU.out];simp);go_wp2;rw[bK.out];exact⟨I,by (rw[HF.out];try rfl),bW _,H1.out.p1.drop⟩
  | true=>
   go_wp2_with fail;refine (C2.out _).mono ?_;rintro e w2 ⟨rfl,rfl⟩;cases b2 with
   | false=>
    have HF:Hid (rv=false):=ah (by rw[bU.out];simp);go_wp2;rw[bK.out];exact⟨I,by (rw[HF.out];try rfl),bW _,H1.out.p1.drop⟩
   | true=>
    go_wp2_with fail;refine (CB.out _ _ (by first|rfl|trivial) H1.out).mono ?_;rintro e w2 ⟨rfl,h2⟩;have H2:=ah h2;clear h2 k0 k1 k2 hld H1 CB;cases bm with
    | false=>
     have HF:Hid (rv=false):=ah (by rw[bU.out];simp);go_wp2;rw[bK.out];exact⟨I,by (rw[HF.out];try rfl),bW _,H2.out.p1.drop⟩
    | true=>
     obtain⟨k0,k3,k4,k5,hld⟩:=FP.out _ H2.out;clear FP;go_wp2_with fail;refine (OJ.out _ (by first|rfl|trivial) H2.out).mono ?_;rintro e w3 ⟨rfl,rfl⟩;cases g3 with
     | false=>
      as_aux_lemma=>
      go_wp2_with fail;refine (HG4.out _ (by first|rfl|trivial) H2.out).mono ?_;rintro e w3 ⟨rfl,rfl⟩;cases g4 with
      | false=>
       as_aux_lemma=>
       go_wp2_with fail;refine (HG5.out _ (by first|rfl|trivial) H2.out).mono ?_;rintro e w3 ⟨rfl,rfl⟩;cases g5 with
       | false=>
        as_aux_lemma=>
        go_wp2_with fail;refine (CF.out _ _ (by first|rfl|trivial) H2.out).mono ?_;rintro e w3 ⟨J,rfl,hle,h3⟩;have H3:=ah h3;have HL:=ah hle;clear h3 hle k0 k3 k4 k5 hld H2 CF;cases fm with
        | false=>
         have HF:Hid (rv=false):=ah (by rw[bU.out];simp);go_wp2;rw[bK.out];exact⟨J,by (rw[HF.out];try rfl),HL.out,H3.out.p1.drop⟩
        | true=>
         have HF:Hid (rv=true):=ah (by rw[bU.out];rfl);go_wp2;rw[bK.out];exact⟨J,by (rw[HF.out];try rfl),HL.out,H3.out.p1.drop⟩
       | true=>
        as_aux_lemma=>
        go_wp2_with fail;refine (C5.out _).mono ?_;rintro e w4 ⟨rfl,rfl⟩;cases b5 with
        | false=>
         have HF:Hid (rv=false):=ah (by rw[bU.out];simp);go_wp2;rw[bK.out];exact⟨I,by (rw[HF.out];try rfl),bW _,H2.out.p1.drop⟩
        | true=>
         go_wp2_with fail;refine (CF.out _ _ (by first|rfl|trivial) H2.out).mono ?_;rintro e w3 ⟨J,rfl,hle,h3⟩;have H3:=ah h3;have HL:=ah hle;clear h3 hle k0 k3 k4 k5 hld H2 CF;cases fm with
         | false=>
          have HF:Hid (rv=false):=ah (by rw[bU.out];simp);go_wp2;rw[bK.out];exact⟨J,by (rw[HF.out];try rfl),HL.out,H3.out.p1.drop⟩
         | true=>
          have HF:Hid (rv=true):=ah (by rw[bU.out];rfl);go_wp2;rw[bK.out];exact⟨J,by (rw[HF.out];try rfl),HL.out,H3.out.p1.drop⟩
      | true=>
       as_aux_lemma=>
       go_wp2_with fail;refine (C4.out _).mono ?_;rintro e w4 ⟨rfl,rfl⟩;cases b4 with
       | false=>
        have HF:Hid (rv=false):=ah (by rw[bU.out];simp);go_wp2;rw[bK.out];exact⟨I,by (rw[HF.out];try rfl),bW _,H2.out.p1.drop⟩
       | true=>
        go_wp2_with fail;refine (HG5.out _ (by first|rfl|trivial) H2.out).mono ?_;rintro e w3 ⟨rfl,rfl⟩;cases g5 with
        | false=>
         as_aux_lemma=>
         go_wp2_with fail;refine (CF.out _ _ (by first|rfl|trivial) H2.out).mono ?_;rintro e w3 ⟨J,rfl,hle,h3⟩;have H3:=ah h3;have HL:=ah hle;clear h3 hle k0 k3 k4 k5 hld H2 CF;cases fm with
         | false=>
          have HF:Hid (rv=false):=ah (by rw[bU.out];simp);go_wp2;rw[bK.out];exact⟨J,by (rw[HF.out];try rfl),HL.out,H3.out.p1.drop⟩
         | true=>
          have HF:Hid (rv=true):=ah (by rw[bU.out];rfl);go_wp2;rw[bK.out];exact⟨J,by (rw[HF.out];try rfl),HL.out,H3.out.p1.drop⟩
        | true=>
         as_aux_lemma=>
         go_wp2_with fail;refine (C5.out _).mono ?_;rintro e w4 ⟨rfl,rfl⟩;cases b5 with
         | false=>
          have HF:Hid (rv=false):=ah (by rw[bU.out];simp);go_wp2;rw[bK.out];exact⟨I,by (rw[HF.out];try rfl),bW _,H2.out.p1.drop⟩
         | true=>
          go_wp2_with fail;refine (CF.out _ _ (by first|rfl|trivial) H2.out).mono ?_;rintro e w3 ⟨J,rfl,hle,h3⟩;have H3:=ah h3;have HL:=ah hle;clear h3 hle k0 k3 k4 k5 hld H2 CF;cases fm with
          | false=>
           have HF:Hid (rv=false):=ah (by rw[bU.out];simp);go_wp2;rw[bK.out];exact⟨J,by (rw[HF.out];try rfl),HL.out,H3.out.p1.drop⟩
          | true=>
           have HF:Hid (rv=true):=ah (by rw[bU.out];rfl);go_wp2;rw[bK.out];exact⟨J,by (rw[HF.out];try rfl),HL.out,H3.out.p1.drop⟩
     | true=>
      as_aux_lemma=>
      go_wp2_with fail;refine (C3.out _).mono ?_;rintro e w4 ⟨rfl,rfl⟩;cases b3 with
      | false=>
       have HF:Hid (rv=false):=ah (by rw[bU.out];simp);go_wp2;rw[bK.out];exact⟨I,by (rw[HF.out];try rfl),bW _,H2.out.p1.drop⟩
      | true=>
       go_wp2_with fail;refine (HG4.out _ (by first|rfl|trivial) H2.out).mono ?_;rintro e w3 ⟨rfl,rfl⟩;cases g4 with
       | false=>
        as_aux_lemma=>
        go_wp2_with fail;refine (HG5.out _ (by first|rfl|trivial) H2.out).mono ?_;rintro e w3 ⟨rfl,rfl⟩;cases g5 with
        | false=>
         as_aux_lemma=>
         go_wp2_with fail;refine (CF.out _ _ (by first|rfl|trivial) H2.out).mono ?_;rintro e w3 ⟨J,rfl,hle,h3⟩;have H3:=ah h3;have HL:=ah hle;clear h3 hle k0 k3 k4 k5 hld H2 CF;cases fm with
         | false=>
          have HF:Hid (rv=false):=ah (by rw[bU.out];simp);go_wp2;rw[bK.out];exact⟨J,by (rw[HF.out];try rfl),HL.out,H3.out.p1.drop⟩
         | true=>
          have HF:Hid (rv=true):=ah (by rw[bU.out];rfl);go_wp2;rw[bK.out];exact⟨J,by (rw[HF.out];try rfl),HL.out,H3.out.p1.drop⟩
        | true=>
         as_aux_lemma=>
         go_wp2_with fail;refine (C5.out _).mono ?_;rintro e w4 ⟨rfl,rfl⟩;cases b5 with
         | false=>
          have HF:Hid (rv=false):=ah (by rw[bU.out];simp);go_wp2;rw[bK.out];exact⟨I,by (rw[HF.out];try rfl),bW _,H2.out.p1.drop⟩
         | true=>
          go_wp2_with fail;refine (CF.out _ _ (by first|rfl|trivial) H2.out).mono ?_;rintro e w3 ⟨J,rfl,hle,h3⟩;have H3:=ah h3;have HL:=ah hle;clear h3 hle k0 k3 k4 k5 hld H2 CF;cases fm with
          | false=>
           have HF:Hid (rv=false):=ah (by rw[bU.out];simp);go_wp2;rw[bK.out];exact⟨J,by (rw[HF.out];try rfl),HL.out,H3.out.p1.drop⟩
          | true=>
           have HF:Hid (rv=true):=ah (by rw[bU.out];rfl);go_wp2;rw[bK.out];exact⟨J,by (rw[HF.out];try rfl),HL.out,H3.out.p1.drop⟩
       | true=>
        as_aux_lemma=>
        go_wp2_with fail;refine (C4.out _).mono ?_;rintro e w4 ⟨rfl,rfl⟩;cases b4 with
        | false=>
         have HF:Hid (rv=false):=ah (by rw[bU.out];simp);go_wp2;rw[bK.out];exact⟨I,by (rw[HF.out];try rfl),bW _,H2.out.p1.drop⟩
        | true=>
         go_wp2_with fail;refine (HG5.out _ (by first|rfl|trivial) H2.out).mono ?_;rintro e w3 ⟨rfl,rfl⟩;cases g5 with
         | false=>
          as_aux_lemma=>
          go_wp2_with fail;refine (CF.out _ _ (by first|rfl|trivial) H2.out).mono ?_;rintro e w3 ⟨J,rfl,hle,h3⟩;have H3:=ah h3;have HL:=ah hle;clear h3 hle k0 k3 k4 k5 hld H2 CF;cases fm with
          | false=>
           have HF:Hid (rv=false):=ah (by rw[bU.out];simp);go_wp2;rw[bK.out];exact⟨J,by (rw[HF.out];try rfl),HL.out,H3.out.p1.drop⟩
          | true=>
           have HF:Hid (rv=true):=ah (by rw[bU.out];rfl);go_wp2;rw[bK.out];exact⟨J,by (rw[HF.out];try rfl),HL.out,H3.out.p1.drop⟩
         | true=>
          as_aux_lemma=>
          go_wp2_with fail;refine (C5.out _).mono ?_;rintro e w4 ⟨rfl,rfl⟩;cases b5 with
          | false=>
           have HF:Hid (rv=false):=ah (by rw[bU.out];simp);go_wp2;rw[bK.out];exact⟨I,by (rw[HF.out];try rfl),bW _,H2.out.p1.drop⟩
          | true=>
           go_wp2_with fail;refine (CF.out _ _ (by first|rfl|trivial) H2.out).mono ?_;rintro e w3 ⟨J,rfl,hle,h3⟩;have H3:=ah h3;have HL:=ah hle;clear h3 hle k0 k3 k4 k5 hld H2 CF;cases fm with
           | false=>
            have HF:Hid (rv=false):=ah (by rw[bU.out];simp);go_wp2;rw[bK.out];exact⟨J,by (rw[HF.out];try rfl),HL.out,H3.out.p1.drop⟩
           | true=>
            have HF:Hid (rv=true):=ah (by rw[bU.out];rfl);go_wp2;rw[bK.out];exact⟨J,by (rw[HF.out];try rfl),HL.out,H3.out.p1.drop⟩
end Go.Proofs.YthfmaclnccdcbaaGreatDoor
namespace PA
open Go Go.RowKit
theorem OA {x:Pa} (h:bC x=true) (hk:x.k=0):x.ea.length≤8:=by
 unfold bC at h;simp only[Bool.and_eq_true] at h;have h2:=h.2.2.2.2.2;unfold aQ at h2;rw[if_pos hk] at h2;unfold qm at h2;split at h2
 ·cases h2
 ·omega
theorem DZ {l:List Ea} (h:∀e∈l,(-9223372036854775808≤e.file∧e.file≤9223372036854775807)∧(-9223372036854775808≤e.day∧e.day≤9223372036854775807)):(lG l).length≤20*l.length:=by
 induction l with
 | nil=>simp[lG]
 | cons e l ih=>
  have h1:=ih fun g hg=>h g (tY _ hg)
  have h2:=h e (List.mem_cons_self ..);have h3:=eP h2.1.1 h2.1.2;have h4:=eP h2.2.1 h2.2.2;unfold lG at h1 ⊢;have h5:(pY e).length≤20:=by unfold pY;rw[dM];omega
  rw[mM,List.flatten_cons,dM,oP];omega
theorem TL {x:Pa} (h:bC x=true) (hE:uj x):(iP x).length≤268436000:=by
 unfold iP;split
 ·rename_i hk
  have h1:=OA h hk;have h2:=DZ hE.ea;have h3:=jd (nS hE.lt) (by omega);have h4:=eP (r:=(x.ea.length:Int)) (by omega) (by omega);simp only[dM];omega
 ·split
  ·have:=jd (kU hE.fx.bl) (by omega);omega
  ·simp
end PA
namespace Go.Proofs.YthfmaclnccdcbaaGreatDoor
open Go.RowKit PA
attribute [local go_sem ↓] aY bI aV uy
set_option maxRecDepth 100000 in
set_option maxHeartbeats 16000000 in
theorem wS {W w:World} {A:aB} {I:Mem} (hW:fZ W) (z:Ac) (x:Pa) (hA:lT I z x) (hz:YL x) (hE:uj x) (h:Sat W w (sep (kn I) A)):
 Calls Tryz.prog 25 #[.agg z.cells.toArray] w fun e w'=>∃(b:Option Addr) (m d:Nat) (J:Mem),e=.returned (.tuple #[.slice b m d,.int .i64 (if bC x=true then 0 else 1)])∧Mem.le I J∧bZ.rel J [.slice b m d] (iI x)∧Sat W w' (sep (kn J) A):=by
 have h1:=(h.alloc (.cells z.cells.toArray 36)).p1;obtain⟨B,hB⟩:=aC (w.heap.size);obtain⟨w1,hw1⟩:=aC (w.alloc (.cells z.cells.toArray 36));rw[←hB,←hw1] at h1;have HB:=ah (aH hB hw1);have hld:=iq h1.p1;have HV:Hid (∀w' A',Sat W w' (sep (kn I) A')→Calls Tryz.prog 17 #[.agg z.cells.toArray] w' fun e w''=>∃J,e=.returned (.int .i64 (if bC x=true then 0 else 1))∧Mem.le I J∧Sat W w'' (sep (kn J) A')):=ah fun w' A' h'=>yS hW z x hA hz h'
 obtain⟨rv,dQ⟩:=aC (bC x);rw[←dQ] at HV ⊢;have kY:Hid ((rv=false→iI x=[])∧(rv=true→iI x=L6 x)):=ah ⟨fun e=>by unfold iI;rw[←dQ,e];rfl,fun e=>by unfold iI;rw[←dQ,e];rfl⟩;obtain⟨E,hEE⟩:=aC (iI x);rw[←hEE] at kY ⊢;obtain⟨Po,dS⟩:∃P:Ending→World→Prop,P=fun e w'=>∃(b:Option Addr) (m d:Nat) (J:Mem),e=.returned (.tuple #[.slice b m d,.int .i64 (if rv=true then 0 else 1)])∧Mem.le I J∧bZ.rel J [.slice b m d] E∧Sat W w' (sep (kn J) A):=⟨_,rfl⟩
 rw[←dS];have bK:=ah dS;have HX:=ah (aH hA (aH hz hE));have H1:=ah h1;clear hA hz hE h h1 hB hw1 hEE dS;cases rv with
 | false=>
  have IW:=ah (kY.out.1 (by first|rfl|trivial));clear dQ;go_enter Tryz.func25,Tryz.ntmps25;go_upto_region 1 with fail;rw[←HB.out.1,←HB.out.2];go_wp2_with fail;refine (HV.out _ _ H1.out).mono ?_;rintro e w2 ⟨J,rfl,hle,h2⟩;have HF:=ah (aH hle h2.p1.drop);clear h2 hle HV hld H1;go_wp2;rw[bK.out];exact⟨none,0,0,J,rfl,HF.out.1,by rw[IW.out];exact jq J,HF.out.2⟩
 | true=>
  have hEW:E=L6 x:=kY.out.2 (by first|rfl|trivial);obtain⟨L,hL⟩:=aC (gV x);obtain⟨V,hV⟩:∃V:Nat→List UInt8,V=fun j=>((L.take j).map PA.encI).flatten:=⟨_,rfl⟩
  have hLl:L.length=11:=by rw[hL];rfl
  have Jl:∀r∈L,-9223372036854775808≤r∧r≤9223372036854775807:=by rw[hL];exact HX.out.2.2.n64
  have hV0:V 0=[]:=by rw[hV];simp
  have BM:∀j g,L[j]?=some g→V (j+1)=V j++PA.encI g:=fun j g hg=>by rw[hV];simp only;rw[IC hg]
  have BL:∀j,(V j).length≤10*j:=by
   intro j
   induction j with
   | zero=>rw[hV0];simp
   | succ j ih=>
    cases hg:L[j]? with
    | none=>rw[hV] at ih ⊢;simp only at ih ⊢;rw[List.take_add_one,hg];simp at ih ⊢;omega
    | some g=>
     rw[BM j g hg,dM];have:=eP (Jl g (mZ hg)).1 (Jl g (mZ hg)).2;omega
  have hVe:E=V 11++iP x++uI x:=by
   rw[hEW,hV];simp only;rw[←hLl,List.take_length,hL];rfl
  have hEl:E.length≤1073741824:=by rw[hEW];exact HX.out.2.2.lw
  have HKD:=ah (TL (dQ).symm HX.out.2.2);have HV8:=ah (fun hk=>OA (x:=x) (dQ).symm hk);have HVV:=ah (aH hV0 (aH BM (aH hVe (aH BL hEl))));have HL:=ah (aH hLl (aH hL Jl));obtain⟨X,hXX⟩:=aC (sep (blk B (.cells z.cells.toArray 36 (0,0))) A);have FZ:Hid (∀w' Y,Sat W w' (sep X Y)→Sat W w' (sep (blk B (.cells z.cells.toArray 36 (0,0))) (sep A Y))):=ah fun w' Y h'=>by rw[hXX,aj] at h';exact h'
  have h1:=H1.out;rw[←hXX] at h1;have H1:=ah h1;have HXX:=ah hXX;clear dQ kY hEW hV hLl hL Jl hV0 BM BL hVe hEl h1 hXX;go_enter Tryz.func25,Tryz.ntmps25;go_upto_region 1 with fail;rw[←HB.out.1,←HB.out.2];go_wp2_with fail;refine (HV.out _ _ H1.out).mono ?_;rintro e w2 ⟨J,rfl,hle,h2⟩;have hw2:=Qn h2;obtain⟨P,hP⟩:=aC (w2.heap.size);obtain⟨w3,hw3⟩:=aC (w2.alloc (.cells #[.slice none 0 0] 104));rw[←hP,←hw3] at hw2;have HPW:=ah (aH hP hw3);have hp3:=FZ.out _ _ (show Sat W w3 (sep X (sep (dP P []) (kn J))) by simpa only[aA,au,aj] using hw2);have k0:=(ay hp3 0 _ rfl).1;have k1:=(ay hp3 1 _ rfl).1;have k2:=(ay hp3 2 _ rfl).1;have k3:=(ay hp3 3 _ rfl).1;have k4:=(ay hp3 4 _ rfl).1;have k5:=(ay hp3 5 _ rfl).1;have k6:=(ay hp3 6 _ rfl).1;have k7:=(ay hp3 7 _ rfl).1;have k8:=(ay hp3 8 _ rfl).1;have k9:=(ay hp3 9 _ rfl).1;have k10:=(ay hp3 10 _ rfl).1;have hbs:=VR w3 z.k z.d z.n z.f z.o z.p z.q z.u z.m z.sn z.sd;have hA2:=hw2.alloc (.cells #[.int .i64 z.k,.int .i64 z.d,.int .i64 z.n,.int .i64 z.f,.int .i64 z.o,.int .i64 z.p,.int .i64 z.q,.int .i64 z.u,.int .i64 z.m,.int .i64 z.sn,.int .i64 z.sd] 3);obtain⟨N,hN⟩:=aC (w3.heap.size);obtain⟨w4,hw4⟩:=aC (w3.alloc (.cells #[.int .i64 z.k,.int .i64 z.d,.int .i64 z.n,.int .i64 z.f,.int .i64 z.o,.int .i64 z.p,.int .i64 z.q,.int .i64 z.u,.int .i64 z.m,.int .i64 z.sn,.int .i64 z.sd] 3));rw[←hN,←hw4] at hbs hA2;obtain⟨Y,hY⟩:=aC (blk N (.cells #[.int .i64 z.k,.int .i64 z.d,.int .i64 z.n,.int .i64 z.f,.int .i64 z.o,.int .i64 z.p,.int .i64 z.q,.int .i64 z.u,.int .i64 z.m,.int .i64 z.sn,.int .i64 z.sd] 3 (0,0)));have HYC:Hid (∀w' Z,Sat W w' (sep Y Z)→∀k r,L[k]?=some r→w'.cell? ⟨N,k,none⟩=some (.int .i64 r)):=ah fun w' Z h' k r hr=>by
   rw[hY] at h';rw[h'.cell k];rw[HL.out.2.1,gV,←HX.out.1.k,←HX.out.1.d,←HX.out.1.n,←HX.out.1.f,←HX.out.1.o,←HX.out.1.p,←HX.out.1.q,←HX.out.1.u,←HX.out.1.m,←HX.out.1.sn,←HX.out.1.sd] at hr
   match k,hr with
   | 0,hr|1,hr|2,hr|3,hr|4,hr|5,hr|6,hr|7,hr|8,hr|9,hr|10,hr=>simp at hr;subst hr;rfl
   | k+11,hr=>simp at hr
  rw[←hY] at hA2;have H5:Hid (Sat W w4 (sep (dP P []) (sep Y (sep (kn J) X)))):=ah (dI hA2);have KW:=ah hw4;have iL:=ah hle;clear h2 hw2 hP hw3 hp3 hA2 hN hw4 hY H1 hld HV hle;go_upto_region 4 with fail;rw[←HPW.out.1,←HPW.out.2];go_upto_block 0 with fail
  try rw[←KW.out]
  clear hbs k0 k1 k2 k3 k4 k5 k6 k7 k8 k9 k10;go_cut [] from 6 to 50 (fun wx=>Sat W wx (sep (dP P (V 11)) (sep (kn J) X)))
  case first=>
   as_aux_lemma=>
   go_wp2_with fail;go_loopw [44] (fun kv wr=>∃(k:Nat),kv=.int .i64 k∧k≤11∧Sat W wr (sep (dP P (V k)) (sep Y (sep (kn J) X)))) (fun kv _=>11-(intOf kv).toNat)
   case atStart=>exact⟨0,rfl,by omega,by rw[HVV.out.1];exact H5.out⟩
   case round=>
    obtain⟨k,rfl,hk,hS⟩:=hrel;clear H5;by_cases hlt:k<11
    ·have hltz:(k:Int)<11:=by omega
     obtain⟨r,hr⟩:∃r,L[k]?=some r:=⟨_,iM (by have:=HL.out.1;omega)⟩
     have j0:=HYC.out _ _ hS.p1 k r hr;have Ej:=HL.out.2.2 r (mZ hr);have hw:=iV P (V k) r Ej.1 Ej.2 hS (by have:=HVV.out.2.2.2.1 k;omega);rw[←HVV.out.2.1 k r hr] at hw;have KY:=ah hw;have HK2:=ah hlt;clear hr Ej hw hlt hk hS;go_wp2_with fail;refine KY.out.mono ?_;rintro e w5 ⟨rfl,h6⟩;have H6:=ah h6;clear h6 KY j0;go_wp2_with fail;go_roundw;case rel=>exact⟨k+1,by go_num,by have:=HK2.out;omega,H6.out⟩
     case measure=>simp[intOf];have:=HK2.out;omega
    ·obtain rfl:k=11:=by omega
     have H6:Hid (Sat W wr (sep (dP P (V 11)) (sep (kn J) X))):=ah hS.p1.drop;have hltz:¬((11:Nat):Int)<11:=by omega
     clear hS hlt hk;go_wp2;go_meet;case rel=>exact H6.out
  case rest=>
   have H6:=ah hcut;have hp:=FZ.out _ _ (show Sat W wc (sep X (sep (dP P (V 11)) (kn J))) by have h9:=hcut;simpa only[aA,au,aj] using h9);have k0:=(ay hp 0 _ rfl).1;clear hcut hp H5 HYC HPW KW;go_upto_block 2 with fail;clear k0;go_cut [] from 7 to 91 (fun wx=>∃J2:Mem,Hid (Mem.le J J2)∧Sat W wx (sep (dP P (V 11++iP x)) (sep (kn J2) X)))
   case first=>
    as_aux_lemma=>
    by_cases hk0:z.k=0
    ·have hkb:(z.k==0)=true:=by simpa using hk0
     have hxk:x.k=0:=by rw[←HX.out.1.k];exact hk0
     have afD:=HV8.out hxk;have hKd:iP x=encR (jV x.td x.tc)++PA.encI (x.ea.length:Int)++lG x.ea:=by unfold iP;rw[if_pos hxk]
     obtain⟨ne,hne⟩:=aC (z.ea.n);have Ei:ne=x.ea.length:=by rw[hne];exact (aJ HX.out.1.ea).1
     obtain⟨V1,hV1⟩:=aC (V 11++encR (jV x.td x.tc));obtain⟨U,hU⟩:∃U:Nat→List UInt8,U=fun k=>V1++PA.encI (ne:Int)++((x.ea.take k).map pY).flatten:=⟨_,rfl⟩
     have hU0:V1++PA.encI (ne:Int)=U 0:=by rw[hU];simp
     have hUs:∀k e,x.ea[k]?=some e→U (k+1)=U k++PA.encI e.file++PA.encI e.day:=fun k e he=>by
      rw[hU];simp only;rw[nT pY he];unfold pY;simp only[kZ]
     have hUn:U ne=V 11++iP x:=by
      rw[hU,hKd,hV1];simp only;rw[Ei,List.take_length];simp only[kZ];rfl
     have BL:=HVV.out.2.2.2.1 11;have h3:=jd (nS HX.out.2.2.lt) (by omega);have adp:V1.length≤268436000:=by rw[hV1,dM];omega
     have hUl:∀k,(U k).length≤268437000:=fun k=>by
      rw[hU];simp only[dM];have h1:=vN pY x.ea k;have h2:=DZ HX.out.2.2.ea;unfold lG at h2;have h4:=eP (r:=(ne:Int)) (by omega) (by omega);omega
     have SS:=ah (aH hU0 (aH hUs (aH hUn (aH hUl (aH hV1 (aH adp Ei))))));have XZ:=ah hne;have hp:=FZ.out _ _ (show Sat W wc (sep X (sep (dP P (V 11)) (kn J))) by have h9:=H6.out;simpa only[aA,au,aj] using h9);have k11:=(ay hp 11 _ rfl).1;have k12:=(ay hp 12 _ rfl).1;have hde:=Gv z.td.a z.td.n z.td.c z.tc.a z.tc.n z.tc.c x.td x.tc ((rF.slice 4).mono iL.out HX.out.1.td) ((lM.slice 5).mono iL.out HX.out.1.tc) HX.out.2.1.td HX.out.2.1.tc HX.out.2.2.td HX.out.2.2.tc HX.out.2.2.lt HX.out.2.2.ltc (show Sat W wc (sep (kn J) (sep (dP P (V 11)) X)) from H6.out.p1);obtain⟨te,hte⟩:=aC (FT x.td x.tc);rw[←hte] at hde;have HDE:=ah hde;have ajh:(ne:Int)≤8:=by omega
     clear hk0 hxk afD hKd hne Ei hV1 hU hU0 hUs hUn BL h3 adp hUl hp hde hte H6;go_wp2_with fail;refine HDE.out.mono ?_;rintro e w5 ⟨fb,fl,fc,J2,rfl,hle2,Em,h7⟩;have hwr:=oz P (V 11) (.slice fb fl fc) (jV x.td x.tc) (show Sat W w5 (sep (dP P (V 11)) (sep (kn J2) X)) from h7.p1) Em (by have:=HVV.out.2.2.2.1 11;omega) (by have:=nS HX.out.2.2.lt;omega);rw[←SS.out.2.2.2.2.1] at hwr;have KZ:=ah hwr;have HL2:=ah hle2;clear h7 hle2 Em hwr HDE k11 k12;go_wp2_with fail;refine KZ.out.mono ?_;rintro e w6 ⟨rfl,h8⟩;have hp:=FZ.out _ _ (show Sat W w6 (sep X (sep (dP P V1) (kn J2))) by simpa only[aA,au,aj] using h8);have k14:w6.cell? ⟨B,14,none⟩=some (.slice z.ea.a ne z.ea.c):=by rw[XZ.out];exact (ay hp 14 _ rfl).1
     have hw:=iV P V1 (ne:Int) (by omega) (by omega) h8 (by have:=SS.out.2.2.2.2.2.1;omega);rw[SS.out.1] at hw;have KY:=ah hw;clear h8 hp hw KZ;go_wp2_with fail;refine KY.out.mono ?_;rintro e w7 ⟨rfl,h9⟩;clear k14;have hp:=FZ.out _ _ (show Sat W w7 (sep X (sep (dP P (U 0)) (kn J2))) by simpa only[aA,au,aj] using h9);have k14:w7.cell? ⟨B,14,none⟩=some (.slice z.ea.a ne z.ea.c):=by rw[XZ.out];exact (ay hp 14 _ rfl).1
     have H9:=ah h9;clear h9 hp KY;go_upto_block 3 with fail;clear k14;go_wp2_with fail;go_loopw [70] (fun iv wr=>∃(k:Nat),iv=.int .i64 k∧k≤ne∧Sat W wr (sep (dP P (U k)) (sep (kn J2) X))) (fun iv _=>ne-(intOf iv).toNat)
     case atStart=>exact⟨0,rfl,by omega,H9.out⟩
     case round=>
      obtain⟨k,rfl,hk,hS⟩:=hrel;clear H9;by_cases hlt:k<ne
      ·have hltz:(k:Int)<(ne:Int):=by omega
       obtain⟨ea,he⟩:∃e,x.ea[k]?=some e:=⟨_,iM (by have:=SS.out.2.2.2.2.2.2;omega)⟩
       obtain⟨b,o,hb,hcell⟩:=yH (show (Qu.slice 2).rel I [.slice z.ea.a z.ea.n z.ea.c] x.ea from HX.out.1.ea) he;obtain⟨j0,j1⟩:=hcell wr (fun g u hg=>hS.p1.ext g u (HL2.out g u (iL.out g u hg)));have h64:=HX.out.2.2.ea ea (mZ he);have hus:=SS.out.2.1 k ea he;have zB:=SS.out.2.2.2.1 k;obtain⟨ef,hef⟩:=aC (ea.file);obtain⟨ed,hed⟩:=aC (ea.day);rw[←hef] at j0 h64 hus;rw[←hed] at j1 h64 hus;have hAl:=hS.alloc (.cells #[.int .i64 ef,.int .i64 ed] 93);obtain⟨M,hM⟩:=aC (wr.heap.size);obtain⟨w8,hw8⟩:=aC (wr.alloc (.cells #[.int .i64 ef,.int .i64 ed] 93));rw[←hM,←hw8] at hAl;have k0:w8.cell? ⟨M,0,none⟩=some (.int .i64 ef):=hAl.cell 0;have hw:=iV P (U k) ef h64.1.1 h64.1.2 hAl.p1 (by omega);have KY:=ah hw;have IX:=ah (aH hM hw8);have HK:=ah (aH hlt (aH hus (aH zB h64)));rw[hb];clear he hcell h64 hus zB hef hed hAl hM hw8 hw hlt hk hS hb;go_upto_region 17 with fail;rw[←IX.out.1,←IX.out.2];clear j0 j1;go_wp2_with fail;refine KY.out.mono ?_;rintro e w9 ⟨rfl,h10⟩;clear k0;have k1:w9.cell? ⟨M,1,none⟩=some (.int .i64 ed):=h10.p1.cell 1;have h11:Sat W w9 (sep (dP P (U k++PA.encI ef)) (sep (kn J2) X)):=h10.p1.forget;have hw:=iV P (U k++PA.encI ef) ed HK.out.2.2.2.2.1 HK.out.2.2.2.2.2 h11 (by rw[dM];have:=HK.out.2.2.1;have:=eP HK.out.2.2.2.1.1 HK.out.2.2.2.1.2;omega);rw[←HK.out.2.1] at hw;have ac1:=ah hw;clear h10 h11 hw KY;go_wp2_with fail;refine ac1.out.mono ?_;rintro e w10 ⟨rfl,h12⟩;have H12:=ah h12;clear h12 k1 ac1;go_wp2;go_roundw;case rel=>exact⟨k+1,by go_num,by have:=HK.out.1;omega,H12.out⟩
       case measure=>simp[intOf];have:=HK.out.1;omega
      ·obtain rfl:k=ne:=by omega
       have hS2:=hS;rw[SS.out.2.2.1] at hS2;have KD:=ah hS2;clear hS hS2 hlt hk;go_wp2;go_meet;case rel=>exact⟨J2,ah HL2.out,KD.out⟩
    ·have hkb:(z.k==0)=false:=by simpa using hk0
     by_cases TU:z.k=19
     ·have hkc:(z.k==19)=true:=by simpa using TU
      have hxk:x.k=19:=by rw[←HX.out.1.k];exact TU
      have hKd:V 11++iP x=V 11++encR (gK x.fx):=by unfold iP;rw[if_neg (by rw[hxk];decide),if_pos hxk]
      have hp:=FZ.out _ _ (show Sat W wc (sep X (sep (dP P (V 11)) (kn J))) by have h9:=H6.out;simpa only[aA,au,aj] using h9);have k15:=(ay hp 15 _ rfl).1;have k16:=(ay hp 16 _ rfl).1;have k17:=(ay hp 17 _ rfl).1;have k18:=(ay hp 18 _ rfl).1;have hfe:=qL x.fx z.fo z.fn z.fi.a z.fi.n z.fi.c z.fk.a z.fk.n z.fk.c (rF.mono iL.out HX.out.1.fx) HX.out.2.1.fx HX.out.2.2.fx.b64 (show Sat W wc (sep (kn J) (sep (dP P (V 11)) X)) from H6.out.p1);obtain⟨te,hte⟩:=aC (kQ x.fx);rw[←hte] at hfe;have xw:=ah hfe;have HKE:=ah hKd;clear hk0 TU hxk hKd hp hfe hte H6;go_wp2_with fail;refine xw.out.mono ?_;rintro e w5 ⟨fb,fl,fc,J2,rfl,hle2,Em,h7⟩;have hwr:=oz P (V 11) (.slice fb fl fc) (gK x.fx) (show Sat W w5 (sep (dP P (V 11)) (sep (kn J2) X)) from h7.p1) Em (by have:=HVV.out.2.2.2.1 11;omega) (by have:=kU HX.out.2.2.fx.bl;omega);rw[←HKE.out] at hwr;have KZ:=ah hwr;have HL2:=ah hle2;clear h7 hle2 Em hwr xw k15 k16 k17 k18;go_wp2_with fail;refine KZ.out.mono ?_;rintro e w6 ⟨rfl,h8⟩;have H8:=ah h8;clear h8 KZ;go_wp2;go_meet;case rel=>exact⟨J2,ah HL2.out,H8.out⟩
     ·have hkc:(z.k==19)=false:=by simpa using TU
      have hKd:V 11++iP x=V 11:=by unfold iP;rw[if_neg (by rw[←HX.out.1.k];exact hk0),if_neg (by rw[←HX.out.1.k];exact TU),List.append_nil]
      have HKE:=ah hKd;clear hk0 TU hKd;go_wp2;go_meet;case rel=>exact⟨J,ah (bW _),by rw[HKE.out];exact H6.out⟩
   case rest=>
    as_aux_lemma=>
    obtain⟨J2,HJ2,hS⟩:=hcut;have hp:=FZ.out _ _ (show Sat W wc (sep X (sep (dP P (V 11++iP x)) (kn J2))) by simpa only[aA,au,aj] using hS);obtain⟨nc,hnc⟩:=aC (z.cl.n);have Zm:nc=x.cl.length:=by rw[hnc];exact (aJ HX.out.1.cl).1
    have k13:wc.cell? ⟨B,13,none⟩=some (.slice z.cl.a nc z.cl.c):=by rw[hnc];exact (ay hp 13 _ rfl).1
    have hn63:(nc:Int)≤9223372036854775807:=by rw[hnc];exact (aJ HX.out.1.cl).2.2
    have acA:Hid (∀w' J' a5 c5 Z,Sat W w' (sep (aT 5 1 a5 E.length c5 (E.map bv)) (sep (dP P Z) (sep (kn J') X)))→∃J3,Mem.le J' J3∧bZ.rel J3 [.slice a5 E.length c5] E∧Sat W w' (sep (kn J3) A)):=ah fun w' J' a5 c5 Z h'=>by
     have h2:Sat W w' (sep (aT 5 1 a5 E.length c5 (E.map bv)) (sep (kn J') X)):=FM h'.p1;obtain⟨J3,hle3,hr3,h7⟩:=iK h2 rfl;refine⟨J3,hle3,hr3,?_⟩;have h8:Sat W w' (sep X (kn J3)):=by rw[aA];exact h7
     have h9:=(FZ.out w' (kn J3) h8).forget;rw[aA];exact h9
    have HLJ:Hid (Mem.le I J2):=ah (eG iL.out HJ2.out);by_cases n0:nc=0
    ·subst n0
     have hac:E=V 11++iP x:=by
      rw[HVV.out.2.2.1];unfold uI;rw[if_pos (Ju Zm.symm),List.append_nil]
     have hS2:=hS;rw[←hac] at hS2;have HD:=ah (pG P E hS2 (by have:=HVV.out.2.2.2.2;omega));clear hS hS2 hp hnc Zm hac H6;go_wp2_with fail;refine HD.out.mono ?_;rintro e w5 ⟨a5,c5,rfl,h5⟩;obtain⟨J3,hle3,hr3,h7⟩:=acA.out w5 J2 a5 c5 E h5;have HF:=ah (aH (eG HLJ.out hle3) (aH hr3 h7));clear h5 hle3 hr3 h7 HD k13;go_wp2;rw[bK.out];exact⟨a5,E.length,c5,J3,rfl,HF.out.1,HF.out.2.1,HF.out.2.2⟩
    ·have n0z:(0:Int)<(nc:Int):=by omega
     have hac:E=(V 11++iP x)++encR (gX x.cl):=by
      rw[HVV.out.2.2.1];unfold uI;rw[if_neg (fun e=>n0 (by rw[Zm,e];rfl))]
     have hce:=wU z.cl.a nc z.cl.c x.cl (by rw[hnc];exact (lM.slice 5).mono HLJ.out HX.out.1.cl) HX.out.2.1.cl HX.out.2.2.cl HX.out.2.2.lcl (show Sat W wc (sep (kn J2) (sep (dP P (V 11++iP x)) X)) from hS.p1);obtain⟨cv,hcv⟩:=aC (qQ x.cl);rw[←hcv] at hce;have FY:=ah hce;have HAC:=ah hac;clear hS hp hnc Zm hac H6 hce hcv n0;go_wp2_with fail;refine FY.out.mono ?_;rintro e w5 ⟨fb,fl,fc,J3,rfl,hle3,MK,h7⟩;have hbl:(V 11++iP x).length≤268436200:=by rw[dM];have:=HVV.out.2.2.2.1 11;have:=HKD.out;omega
     have hwr:=oz P (V 11++iP x) (.slice fb fl fc) (gX x.cl) (show Sat W w5 (sep (dP P (V 11++iP x)) (sep (kn J3) X)) from h7.p1) MK (by omega) (by have:=jr HX.out.2.2.lcl;omega);rw[←HAC.out] at hwr;have KZ:=ah hwr;have XW:=ah hle3;clear h7 hle3 MK hwr FY k13 hbl;go_wp2_with fail;refine KZ.out.mono ?_;rintro e w6 ⟨rfl,h8⟩;have HD:=ah (pG P E h8 (by have:=HVV.out.2.2.2.2;omega));clear h8 KZ;go_wp2_with fail;refine HD.out.mono ?_;rintro e w7 ⟨a5,c5,rfl,h5⟩;obtain⟨J4,jE,hr4,h9⟩:=acA.out w7 J3 a5 c5 E h5;have HF:=ah (aH (eG HLJ.out (eG XW.out jE)) (aH hr4 h9));clear h5 jE hr4 h9 HD;go_wp2;rw[bK.out];exact⟨a5,E.length,c5,J4,rfl,HF.out.1,HF.out.2.1,HF.out.2.2⟩
end Go.Proofs.YthfmaclnccdcbaaGreatDoor
namespace PA
open Go Go.RowKit
def kC:List UInt8→List UInt8→Int
 | [],[]=>0
 | [],_::_=>-1
 | _::_,[]=>1
 | a::x,b::y=>if a.toNat<b.toNat then -1 else if b.toNat<a.toNat then 1 else kC x y
theorem Es:∀(x y:List UInt8) (k:Int),yP (Aw x y++[((x.length:Int)+k,(y.length:Int)+k)])=kC x y
 | [],[],k=>by simp[Aw,yP,kC]
 | [],b::y,k=>by
  have h:(0:Int)+k<((y.length+1:Nat):Int)+k:=by omega
  simp only[Aw,List.zipWith,tK,yP,kC,List.length_nil,oP];rw[if_pos (by simpa using h)]
 | a::x,[],k=>by
  have h:(0:Int)+k<((x.length+1:Nat):Int)+k:=by omega
  simp only[Aw,List.zipWith,tK,yP,kC,List.length_nil,oP];rw[if_neg (by simp only[Int.natCast_zero];omega),if_pos (by simpa using h)]
 | a::x,b::y,k=>by
  have ih:=Es x y (k+1);have e1:((x.length:Int)+(k+1))=((a::x).length:Int)+k:=by rw[oP];push_cast;omega
  have e2:((y.length:Int)+(k+1))=((b::y).length:Int)+k:=by rw[oP];push_cast;omega
  rw[e1,e2] at ih;have ez:Aw (a::x) (b::y)=(((a.toNat:Nat):Int),((b.toNat:Nat):Int))::Aw x y:=rfl;rw[ez,pV,yP,ih,kC];simp only[Int.ofNat_lt]
theorem Ru (x y:Pa):mV x y=if x.d<y.d then -1 else if y.d<x.d then 1 else if x.n<y.n then -1 else if y.n<x.n then 1 else kC (iI x) (iI y):=by
 have h:=Es (iI x) (iI y) 0;simp only[Int.add_zero] at h;unfold mV keysB;rw[kZ];simp only[pV,tK,yP,h]
theorem Px {x y:List UInt8} {k:Nat} {u v:UInt8} (h1:x[k]?=some u) (h2:y[k]?=some v):kC (x.drop k) (y.drop k)=if u.toNat<v.toNat then -1 else if v.toNat<u.toNat then 1 else kC (x.drop (k+1)) (y.drop (k+1)):=by
 obtain⟨i1,rfl⟩:=qM h1;obtain⟨i2,rfl⟩:=qM h2;rw[List.drop_eq_getElem_cons i1,List.drop_eq_getElem_cons i2,kC]
def Jd (a b:Nat):Int:=if a<b then -1 else if b<a then 1 else 0
end PA
namespace Go.Proofs.YthfmaclnccdcbaaGreatDoor
open Go.RowKit PA
theorem kH (x:Nat) (w:World):Calls Tryz.prog 170 #[.int .u8 (x:Nat)] w fun e w'=>e=.returned (.bool false)∧w=w':=by
 go_enter Tryz.func170,Tryz.ntmps170;go_wp2;go_ret;exact⟨rfl,rfl⟩
theorem Gg (x y:Nat) (w:World):Calls Tryz.prog 125 #[.int .u8 (x:Nat),.int .u8 (y:Nat)] w fun e w'=>e=.returned (.int .i64 (Jd x y))∧w=w':=by
 obtain⟨r,hr⟩:=aC (Jd x y);rw[←hr];have HR:=ah hr;clear hr;have key:∀(hx:(decide ((x:Int)<(y:Int)))=decide (x<y)),True:=fun _=>trivial
 by_cases c1:x<y
 ·have c1z:(x:Int)<(y:Int):=by omega
  have HF:Hid (r=-1):=ah (by rw[HR.out];unfold Jd;rw[if_pos c1]);clear c1 key;go_enter Tryz.func125,Tryz.ntmps125;go_wp2_with fail;refine (kH x w).mono ?_;rintro e w' ⟨rfl,rfl⟩;go_wp2_with fail;refine (kH y w).mono ?_;rintro e w' ⟨rfl,rfl⟩;go_wp2;go_ret;exact⟨by rw[HF.out];rfl,rfl⟩
 ·have c1z:¬(x:Int)<(y:Int):=by omega
  by_cases c2:y<x
  ·have c2z:(y:Int)<(x:Int):=by omega
   have HF:Hid (r=1):=ah (by rw[HR.out];unfold Jd;rw[if_neg c1,if_pos c2]);clear c1 c2 key;go_enter Tryz.func125,Tryz.ntmps125;go_wp2_with fail;refine (kH x w).mono ?_;rintro e w' ⟨rfl,rfl⟩;go_wp2_with fail;refine (kH y w).mono ?_;rintro e w' ⟨rfl,rfl⟩;go_wp2;go_ret;exact⟨by rw[HF.out];rfl,rfl⟩
  ·have HF:Hid (r=0):=ah (by rw[HR.out];unfold Jd;rw[if_neg c1,if_neg c2])
   obtain rfl:x=y:=by omega
   clear c1 c2 key c1z;go_enter Tryz.func125,Tryz.ntmps125;go_wp2_with fail;refine (kH x w).mono ?_;rintro e w' ⟨rfl,rfl⟩;go_wp2_with fail;refine (kH x w).mono ?_;rintro e w' ⟨rfl,rfl⟩;go_wp2;go_ret;exact⟨by rw[HF.out];rfl,rfl⟩
set_option maxHeartbeats 4000000 in
theorem Gj {W w:World} {A:aB} {I:Mem} (a b:Option Addr) (n m c d:Nat) (X Y:List UInt8) (ha:bZ.rel I [.slice a n c] X) (hb:bZ.rel I [.slice b m d] Y) (h:Sat W w (sep (kn I) A)):
 Calls Tryz.prog 70 #[.slice a n c,.slice b m d] w fun e w'=>e=.returned (.int .i64 (kC X Y))∧Sat W w' (sep (kn I) A):=by
 obtain⟨hn,h63,ha'⟩:=G7 ha;obtain⟨hm,m63,hb'⟩:=G7 hb;obtain⟨r,hr⟩:=aC (kC X Y);rw[←hr];have HN:=ah (aH hn hm);have HR:Hid (r=kC (X.drop 0) (Y.drop 0)):=ah hr;have HAB:=ah (aH ha' hb');have H:=ah h;clear ha hb hn hm ha' hb' h hr;go_enter Tryz.func70,Tryz.ntmps70;go_wp2_with fail;go_loopw [11] (fun kv wr=>∃k:Nat,kv=.int .i64 k∧k≤n∧k≤m∧Hid (r=kC (X.drop k) (Y.drop k))∧Sat W wr (sep (kn I) A)) (fun kv _=>n-(intOf kv).toNat)
 case atStart=>exact⟨0,rfl,by omega,by omega,HR,H.out⟩
 case round=>
  obtain⟨k,rfl,hk,hkm,HT,hS⟩:=hrel;clear H HR;by_cases hlt:k<n
  ·have hltz:(k:Int)<(n:Int):=by omega
   obtain⟨u,hu⟩:∃u,X[k]?=some u:=⟨_,iM (by have:=HN.out.1;omega)⟩
   obtain⟨b1,o1,rfl,hc1⟩:=HAB.out.1 k u hu;have j1:=hc1 wr hS.ext;unfold bv at j1;by_cases hlm:k<m
   ·have adG:(k:Int)<(m:Int):=by omega
    obtain⟨v,hv⟩:∃v,Y[k]?=some v:=⟨_,iM (by have:=HN.out.2;omega)⟩
    obtain⟨b2,o2,rfl,hc2⟩:=HAB.out.2 k v hv;have j2:=hc2 wr hS.ext;unfold bv at j2;have ht:=HT.out;rw[Px hu hv] at ht;obtain⟨x,hx⟩:∃x:Nat,x=u.toNat:=⟨_,rfl⟩
    obtain⟨y,hy⟩:∃x:Nat,x=v.toNat:=⟨_,rfl⟩
    rw[←hx] at j1 ht;rw[←hy] at j2 ht;have HC:=ah (fun w'=>Gg x y w');obtain⟨cv,hcv⟩:=aC (Jd x y);rw[←hcv] at HC;have Dk:=ah (aH hcv ht);have HK:=ah (aH hlt hlm);have HS:=ah hS;clear hu hc1 hc2 hx hlt hk hS hv hy hkm hlm ht hcv HT;go_wp2_with fail;refine (HC.out _).mono ?_;rintro e w2 ⟨rfl,rfl⟩;clear j1 j2 HC;by_cases c0:cv=0
    ·have HT2:Hid (r=kC (X.drop (k+1)) (Y.drop (k+1))):=ah (by
      obtain⟨h1,h2⟩:=Dk.out;rw[c0] at h1;unfold Jd at h1;split at h1
      ·cases h1
      ·split at h1
       ·cases h1
       ·rename_i g1 g2
        rw[h2,if_neg g1,if_neg g2])
     subst c0;go_wp2_with fail;go_roundw;case rel=>exact⟨k+1,by go_num,by have:=HK.out;omega,by have:=HK.out;omega,HT2,HS.out⟩
     case measure=>simp[intOf];have:=HK.out;omega
    ·have c1:(cv !=0)=true:=by simpa using c0
     have HF:Hid (r=cv):=ah (by
      obtain⟨h1,h2⟩:=Dk.out;rw[h2,h1];unfold Jd;split
      ·rfl
      ·split
       ·rfl
       ·rename_i g1 g2
        exfalso;apply c0;rw[h1];unfold Jd;rw[if_neg g1,if_neg g2])
     clear c0;go_wp2;go_ret;exact⟨by (rw[HF.out];try rfl),HS.out⟩
   ·obtain rfl:k=m:=by omega
    have HF:Hid (r=1):=ah (by
     rw[HT.out,List.drop_of_length_le (l:=Y) (by have:=HN.out.2;omega)];obtain⟨i1,-⟩:=qM hu;rw[List.drop_eq_getElem_cons i1,kC])
    have HS:=ah hS;clear hu hc1 hlt hk hS hkm hlm HT;go_wp2;go_ret;exact⟨by (rw[HF.out];try rfl),HS.out⟩
  ·obtain rfl:k=n:=by omega
   have HS:=ah hS;by_cases hlm:k<m
   ·have adG:(k:Int)<(m:Int):=by omega
    have HF:Hid (r=-1):=ah (by
     rw[HT.out,List.drop_of_length_le (l:=X) (by have:=HN.out.1;omega),List.drop_eq_getElem_cons (l:=Y) (by have:=HN.out.2;omega),kC])
    clear hS hlt hk hkm hlm HT;go_wp2;go_ret;exact⟨by (rw[HF.out];try rfl),HS.out⟩
   ·have adG:¬(k:Int)<(m:Int):=by omega
    have HF:Hid (r=0):=ah (by
     rw[HT.out,List.drop_of_length_le (l:=X) (by have:=HN.out.1;omega),List.drop_of_length_le (l:=Y) (by have:=HN.out.2;omega),kC])
    clear hS hlt hk hkm hlm HT;go_wp2;go_ret;exact⟨by (rw[HF.out];try rfl),HS.out⟩
attribute [local go_sem ↓] aY bI aV
set_option maxRecDepth 100000 in
set_option maxHeartbeats 8000000 in
theorem Eu {W w:World} {A:aB} {I:Mem} (hW:fZ W) (z y:Ac) (x t:Pa) (hA:lT I z x) (hz:YL x) (hE:uj x) (hA2:lT I y t) (hz2:YL t) (hE2:uj t) (h:Sat W w (sep (kn I) A)):
 Calls Tryz.prog 21 #[.agg z.cells.toArray,.agg y.cells.toArray] w fun e w'=>∃J,e=.returned (.int .i64 (mV x t))∧Mem.le I J∧Sat W w' (sep (kn J) A):=by
 obtain⟨r,hr⟩:=aC (mV x t);rw[←hr];have h1:=(h.alloc (.cells z.cells.toArray 36)).alloc (.cells y.cells.toArray 36);rw[World.size_alloc] at h1;obtain⟨B,hB⟩:=aC (w.heap.size);obtain⟨w1,hw1⟩:=aC ((w.alloc (.cells z.cells.toArray 36)).alloc (.cells y.cells.toArray 36));rw[←hB,←hw1] at h1;obtain⟨X,hX⟩:=aC (sep (blk (B+1) (.cells y.cells.toArray 36 (0,0))) (sep (blk B (.cells z.cells.toArray 36 (0,0))) A));have h2:Sat W w1 (sep (kn I) X):=by rw[hX];simpa only[aA,au,aj] using h1
 have HX:Hid (∀w' Y,Sat W w' (sep X Y)→((w'.cell? ⟨B,1,none⟩=some (.int .i64 z.d)∧w'.cell? ⟨B+1,1,none⟩=some (.int .i64 y.d))∧w'.cell? ⟨B,2,none⟩=some (.int .i64 z.n)∧w'.cell? ⟨B+1,2,none⟩=some (.int .i64 y.n))∧Sem.run Tryz.prog (mg (.pointer (some ⟨B,0,none⟩))) w'=.ok (.agg z.cells.toArray) w'∧Sem.run Tryz.prog (mg (.pointer (some ⟨B+1,0,none⟩))) w'=.ok (.agg y.cells.toArray) w'):=ah fun w' Y h'=>by
  rw[hX] at h';simp only[aj] at h';have h9:=h'.p1;exact⟨⟨⟨(ay h9 1 _ rfl).1,(ay h' 1 _ rfl).1⟩,(ay h9 2 _ rfl).1,(ay h' 2 _ rfl).1⟩,iq h9,iq h'⟩
 have HXA:Hid (∀w' J,Sat W w' (sep (kn J) X)→Sat W w' (sep (kn J) A)):=ah fun w' J h'=>by
  rw[hX] at h';have h9:Sat W w' (sep (blk (B+1) (.cells y.cells.toArray 36 (0,0))) (sep (blk B (.cells z.cells.toArray 36 (0,0))) (sep (kn J) A))):=by simpa only[aA,au,aj] using h'
  exact h9.forget.forget
 have HR:Hid (r=if Gm z.d y.d≠0 then Gm z.d y.d else if Gm z.n y.n≠0 then Gm z.n y.n else kC (iI x) (iI t)):=ah (by
  rw[hr,Ru,hA.d,hA.n,hA2.d,hA2.n];unfold Gm
  repeat' split
  all_goals first|rfl|omega|contradiction|skip)
 obtain⟨a1,ha1⟩:=aC (Gm z.d y.d);obtain⟨a2,ha2⟩:=aC (Gm z.n y.n);have hc1:=AV z.d y.d;have hc2:=AV z.n y.n;rw[←ha1] at hc1;rw[←ha2] at hc2;rw[←ha1,←ha2] at HR;have HC1:=ah hc1;have HC2:=ah hc2;have XU:=ah (aH hA (aH hz (aH hE (aH hA2 (aH hz2 hE2)))));have HB:=ah hB;have HW1:=ah hw1;have hd:=h2.drew;obtain⟨wd,hwd⟩:=aC (w1.drew);rw[←hwd] at hd;obtain⟨⟨⟨k0,k1⟩,hS0⟩,-⟩:=HX.out wd _ (show Sat W wd (sep X (kn I)) by rw[aA];exact hd);have jY:=ah hwd;have HD:=ah hd;obtain⟨Po,dS⟩:∃P:Ending→World→Prop,P=fun e w'=>∃J,e=.returned (.int .i64 r)∧Mem.le I J∧Sat W w' (sep (kn J) A):=⟨_,rfl⟩
 rw[←dS];have bK:=ah dS;clear hB hw1 h h1 h2 hr ha1 ha2 hc1 hc2 hwd hd hX hA hz hE hA2 hz2 hE2 dS;go_enter Tryz.func21,Tryz.ntmps21;go_upto_region 1 with fail;simp only[←HB.out,←HW1.out];refine aG rfl (fun w'=>w'.cell? ⟨B,2,none⟩=some (.int .i64 z.n)∧w'.cell? ⟨B+1,2,none⟩=some (.int .i64 y.n)) [(0,.p),(1,.t),(2,.p),(3,.t),(5,.p),(6,.s),(7,.p),(8,.s),(4,.e true),(9,.e false),(10,.e false),(11,.e false),(12,.p)] (by kernel_rfl) ?_;rw[←jY.out];refine bG ?_
 (refine jJ rfl rfl (fun K hK=>?_);go_simp)
 refine (HC1.out wd).mono ?_;rintro e w' ⟨rfl,rfl⟩
 (refine hK _ _ (fun _=>hS0) ?_;clear hK K;(try simp only[Act.put,lsA,lsB,lq]))
 clear k0 k1 hS0
 (refine jJ rfl rfl (fun K hK=>?_);go_simp)
 refine (HC2.out wd).mono ?_;rintro e w' ⟨rfl,rfl⟩;refine dY ?_;clear hK K
 (refine jJ rfl rfl (fun K hK=>?_);go_simp)
 refine dY ?_;clear hK K
 (refine jJ rfl rfl (fun K hK=>?_);go_simp)
 refine (Py a1 a2 _ (HD.out.alloc (.cells #[.int .i64 a1,.int .i64 a2] 3))).mono ?_;rintro e w3 ⟨rfl,h3⟩;obtain⟨co,hco⟩:∃c:Int,c=if a1≠0 then a1 else a2:=⟨_,rfl⟩
 rw[←hco];have HCO:=ah hco;have H3:=ah h3;clear hco h3 HD;refine dY ?_;clear hK K;refine bG ?_;refine dJ ?_;by_cases hz:co=0
 ·have hzb:(co !=0)=false:=by simpa using hz
  have HR2:Hid (r=kC (iI x) (iI t)):=ah (by
   have h1:=HCO.out;rw[hz] at h1;have e1:a1=0:=Classical.byContradiction fun hne=>by rw[if_pos hne] at h1;exact hne h1.symm
   rw[if_neg (by simp[e1])] at h1;rw[HR.out,if_neg (by simp[e1]),if_neg (by simp[←h1])])
  obtain⟨-,Zk,-⟩:=HX.out w3 _ (show Sat W w3 (sep X (kn I)) by rw[aA];exact H3.out);have he1:=wS hW z x XU.out.1 XU.out.2.1 XU.out.2.2.1 H3.out;obtain⟨v1,hv1⟩:∃v:Int,v=if bC x=true then 0 else 1:=⟨_,rfl⟩
  rw[←hv1] at he1;have HE1:=ah he1;clear he1 hv1 hz HC1 HC2 HCO HR H3;go_wp2_with fail;refine HE1.out.mono ?_;rintro e w4 ⟨b1,m1,d1,J1,rfl,hle1,adQ,h4⟩;obtain⟨-,-,Zl⟩:=HX.out w4 _ (show Sat W w4 (sep X (kn J1)) by rw[aA];exact h4);have he2:=wS hW y t (XU.out.2.2.2.1.mono hle1) XU.out.2.2.2.2.1 XU.out.2.2.2.2.2 h4;obtain⟨v2,hv2⟩:∃v:Int,v=if bC t=true then 0 else 1:=⟨_,rfl⟩
  rw[←hv2] at he2;have HE2:=ah he2;have FQ:=ah (aH hle1 adQ);clear h4 hle1 adQ he2 hv2 HE1 Zk;go_wp2_with fail;refine HE2.out.mono ?_;rintro e w5 ⟨b2,m2,d2,J2,rfl,hle2,Em,h5⟩;have hcb:=Gj b1 b2 m1 m2 d1 d2 (iI x) (iI t) (bZ.mono hle2 FQ.out.2) Em h5;rw[←HR2.out] at hcb;have HCB:=ah hcb;have HL2:=ah (eG FQ.out.1 hle2);clear h5 hle2 Em hcb HE2 Zl;go_wp2_with fail;refine HCB.out.mono ?_;rintro e w6 ⟨rfl,h6⟩;have H6:=ah (HXA.out _ _ h6);clear h6 HCB;go_wp2;rw[bK.out];exact⟨J2,rfl,HL2.out,H6.out⟩
 ·have hzb:(co !=0)=true:=by simpa using hz
  have HF:Hid (r=co):=ah (by
   rw[HR.out,HCO.out];by_cases e1:a1=0
   ·have e2:a2≠0:=fun e2=>hz (by rw[HCO.out,if_neg (by simp[e1]),e2])
    rw[if_neg (by simp[e1]),if_pos e2,if_neg (by simp[e1])]
   ·rw[if_pos e1,if_pos e1])
  have H4:=ah (HXA.out _ _ H3.out);clear hz H3;go_wp2;rw[bK.out];exact⟨I,by (rw[HF.out];try rfl),bW _,H4.out⟩
end Go.Proofs.YthfmaclnccdcbaaGreatDoor
namespace PA
open Go Go.RowKit
variable {W w:World} {A:aB} {I:Mem}
theorem Sat.kn_two (h:Sat W w (sep (kn I) A)):Sat W w (sep (kn I) (sep (kn I) A)):=h.tell (bW I)
end PA
namespace Go.Proofs.YthfmaclnccdcbaaGreatDoor
open Go.RowKit PA
structure BG (I:Mem) (z:Ac) (x:Pa):Prop where
 is:lT I z x
 sz:YL x
 en:uj x
theorem BG.mono {I J:Mem} {z:Ac} {x:Pa} (h:BG I z x) (hle:Mem.le I J):BG J z x:=⟨h.is.mono hle,h.sz,h.en⟩
theorem Y5 {W:World} (hW:fZ W) (I:Mem) (g:Ac→Pa):Az W (kn I) (fun x y=>BG I x (g x)∧BG I y (g y)) fun x y=>mV (g x) (g y):=fun x y w B hD h=>by
 refine (Eu hW x y (g x) (g y) hD.1.is hD.1.sz hD.1.en hD.2.is hD.2.sz hD.2.en h).mono ?_;rintro e w' ⟨J,rfl,hle,h2⟩;exact⟨rfl,h2.RP hle⟩
theorem XA {W w:World} {A:aB} {I:Mem} (hW:fZ W) (g:Ac→Pa) (b:Addr) (n c:Nat) (xs:List Ac) (hn:xs.length=n) (hg:∀x∈xs,BG I x (g x)) (h0:0<n) (UW:n<40) (hsw:Ld (some b) n c) (hc:dF (some b) (bY xs) I) (h:Sat W w (sep (kn I) A)):
 Calls Tryz.prog 48 #[.slice (some b) n c] w fun e w'=>∃(ys:List Ac) (b:Nat) (d:Nat) (J:Mem),e=.returned (.slice (some ⟨b,0,none⟩) n d)∧ys.Perm xs∧Asc (fun x y=>mV (g x) (g y)) ys∧Mem.le I J∧n≤d∧d≤maxLen∧dF (some ⟨b,0,none⟩) (bY ys) J∧Sat W w' (sep (kn J) A):=by
 have hD:xs.Pairwise fun x y=>BG I x (g x)∧BG I y (g y):=by
  refine List.Pairwise.imp_of_mem (R:=fun _ _=>True) (fun ha hb _=>⟨hg _ ha,hg _ hb⟩) ?_;exact List.pairwise_of_forall fun _ _=>trivial
 refine (Uz (A0:=kn I) (A:=A) (Pv.comp g) (Y5 hW I g) (fun _ _ p=>⟨p.2,p.1⟩) b n c xs hn hD h0 UW hsw hc h.kn_two).mono ?_;rintro e w' ⟨ys,b',d,J,rfl,h1,h2,h3,h4,h5,h6,h7⟩;refine⟨ys,b',d,J,rfl,h1,h2,h3,h4,h5,h6,?_⟩;have h8:Sat W w' (sep (kn I) (sep (kn J) A)):=dI h7;exact h8.drop
end Go.Proofs.YthfmaclnccdcbaaGreatDoor
namespace PA
open Go Go.RowKit
end PA
namespace Go.Proofs.YthfmaclnccdcbaaGreatDoor
section
open Go.RowKit PA
theorem VU (w:World):(Instr.build 36 #[(0,.int .i64 10),(3,.int .i64 7),(1,.int .i64 40000)]).run Tryz.prog w=.ok (.agg #[.int .i64 10,.int .i64 40000,.int .i64 0,.int .i64 7,.int .i64 0,.int .i64 0,.int .i64 0,.int .i64 0,.int .i64 0,.int .i64 0,.int .i64 0,.slice none 0 0,.slice none 0 0,.slice none 0 0,.slice none 0 0,.int .i64 0,.int .i64 0,.slice none 0 0,.slice none 0 0]) w:=by kernel_rfl
attribute [local go_sem ↓] aY bI aV VU
end
section
open Go.ChangeShapes Go.WideShapes Go.ChangeAt Go.RowKit PA
theorem Wi : Tryz.prog.globalNamed "priorart/acts.fields" = some 0 := by kernel_rfl
theorem XE:(Tryz.prog.globals[0]?).map (·.type)=some 96:=by kernel_rfl
def laidQ : List (String × DataW Unit) := [("priorart/acts.fields", Rows.laid_priorart_acts_fields)]
theorem door_met (os:Os) (args:Array Value):laidMetH Tryz.prog laidQ ((World.doorLaid Tryz.prog 14 os).forCall (fun _ _=>0) ⟨#[],args,[]⟩).memory:=
 laidMetH_of_parts3 (fuel:=8) (laidMet_of_run' 8 (by kernel_rfl) (by kernel_rfl)) (by kernel_rfl) (by kernel_rfl)
def WholeOK (W:World):Prop:=fZ W
theorem of_laid {W:World} (h:laidMetH Tryz.prog laidQ W):WholeOK W:=by
 rw[MakeChecks.laidMetH_plain _ _ _ (by kernel_rfl)] at h;obtain⟨ps,⟨g0,t0,cs0,f0,p0,q0,hg0,ht0,hv0,hd0,_,_⟩,_,_⟩:=h;obtain rfl:=Option.some.inj (Wi.symm.trans hg0);obtain rfl:=Option.some.inj (XE.symm.trans ht0);obtain⟨xs,m,-,hx,hl,hxl,hi⟩:=DataW.trod_array Tryz.underlying96 hd0;have c1:Tryz.prog.cellsOf 3=1:=by kernel_rfl
 have c22:Tryz.prog.cellsOf 96=22:=by kernel_rfl
 rw[c22] at hl;rw[c1] at hi;have hmap:xs.map (·.1)=qj.map fun n=>DataW.lit (.int .i64 n):=by
  simp only[Rows.laid_priorart_acts_fields,Prod.mk.injEq,DataW.agg.injEq] at hx;exact hx.1.symm
 intro k r hr;have hk:k<22:=(qM hr).1;have h1:=hi k hk;have hxk:xs[k]?=some xs[k]:=iM (by omega);rw[hxk,Nat.mul_one] at h1;have hy:xs[k].1=DataW.lit (.int .i64 r):=by
  have h2:(xs.map (·.1))[k]?=some xs[k].1:=by rw[List.getElem?_map,hxk];rfl
  rw[hmap,List.getElem?_map,hr] at h2;simpa using h2.symm
 obtain⟨l⟩:=cs0;simp only at hl h1;have hcell:∃v,l[k]?=some v∧(l.drop k).take 1=[v]:=by
  have hkl:k<l.length:=by simpa[hl] using hk
  exact⟨l[k],iM hkl,by rw[List.drop_eq_getElem_cons hkl];rfl⟩
 obtain⟨v,hv,ht⟩:=hcell;rw[ht] at h1;obtain⟨n,e1,e2,-⟩:=DataW.trod_int Tryz.underlying3 h1;simp only[List.cons.injEq,and_true] at e1;rw[e2] at hy;simp only[DataW.lit.injEq,Lit.int.injEq,true_and] at hy;have q:=World.var?_cell hg0 hv0 k;rw[←hy,←e1,←hv];simpa using q
end
end Go.Proofs.YthfmaclnccdcbaaGreatDoor

/- Part of a proof. -/
import Derived.Test.YthfmaclnccdcbaaGreatDoorZFO34
import Derived.Test.YthfmaclnccdcbaaGreatDoorZFO6
import Derived.Deep.CutRange
namespace PA
open Go
def tq (I:Mem) (N:Nat) (z:Ac):Prop:=
 fH N z.f∧(z.o=0∨z.o=1)∧(z.p=1∨z.p=2)∧35600≤z.d∧z.d≤38000∧∃td tc,(rF.slice 4).rel I [z.td.v] td∧(lM.slice 5).rel I [z.tc.v] tc∧AA td tc
theorem tq.mono {I J:Mem} {N:Nat} {z:Ac} (hl:Mem.le I J) (h:tq I N z):tq J N z:=by
 obtain⟨h1,h2,h3,h4,h5,td,tc,h6,h7,h8⟩:=h;exact⟨h1,h2,h3,h4,h5,td,tc,(rF.slice 4).mono hl h6,(lM.slice 5).mono hl h7,h8⟩
def dV (N:Nat) (o p q:Int) (s t e:Sv):Ac:=⟨0,0,0,5*(N:Int),o,p,q,0,0,0,0,s,t,ak,e,0,0,ak,ak⟩
end PA
namespace Go.Proofs.YthfmaclnccdcbaaGreatDoor
open Go.RowKit PA
theorem U3 {J:Mem} (N:Nat) (o p q:Int) {s t e:Sv} {fs:List Fm} {cl:List Cl} {es:List Ea} (h1:(rF.slice 4).rel J [s.v] fs) (h2:(lM.slice 5).rel J [t.v] cl) (h3:(Qu.slice 2).rel J [e.v] es):
 lT J (dV N o p q s t e) { Pa.zero with f:=5*(N:Int),o:=o,p:=p,q:=q,td:=fs,tc:=cl,ea:=es }:=
 ⟨rfl,rfl,rfl,rfl,rfl,rfl,rfl,rfl,rfl,rfl,rfl,h1,h2,aF _ _ _,h3,dX J⟩
theorem MZ:(Tryz.prog.info? 93).map (fun i=>(i.zero,i.size,i.bytes))=some (some (.agg #[.int .i64 0,.int .i64 0]),2,16):=by kernel_rfl
theorem sV {w:World} {g o:Nat} {x:Ac} (h:∀j v,x.cells[j]?=some v→w.cell? ⟨g,o+j,none⟩=some v):
 Sem.run Tryz.prog (mg (.pointer (some ⟨g,o,none⟩))) w=.ok (.agg x.cells.toArray) w:=by
 have hl:x.cells.length=kA:=rfl;have:=run_loadCells_list (P:=Tryz.prog) w ⟨g,o,none⟩ x.cells (fun j v hj=>by
  have e:(⟨g,o,none⟩:Addr).add j=⟨g,o+j,none⟩:=by unfold Addr.add;split<;>simp_all
  rw[e];exact h j v hj)
 rw[hl] at this;show Sem.run Tryz.prog (loadVar 36 ⟨g,o,none⟩) w=_;unfold loadVar;exact RQ (Go.isAgg 36) (Go.sizeOf 36) (loadCells ⟨g,o,none⟩) _ (yN w) (aV w) this
theorem JC {W w:World} {A:aB} {g n c:Nat} {zs:List Ac} (h:Sat W w (sep (aT 36 19 (some ⟨g,0,none⟩) n c (bY zs)) A)) (r:Nat) (hr:r<zs.length):∀j v,zs[r].cells[j]?=some v→w.cell? ⟨g,r*19+j,none⟩=some v:=by
 intro j v hj;have hjl:j<19:=(qM hj).1;have h2:=h.eF.SE (r*19+j) v (by rw[zG zs r hr j hjl];exact hj);have e:(⟨g,0,none⟩:Addr).add (r*19+j)=⟨g,r*19+j,none⟩:=by unfold Addr.add;split<;>simp_all
 rw[e] at h2;exact h2
attribute [local go_sem ↓] aY bI iF wQ
attribute [local go_sem] DN aan
set_option maxRecDepth 100000 in
set_option maxHeartbeats 4000000 in
theorem V4 {W w:World} {A:aB} {I:Mem} {B:Nat} {day:Int} {fa:Option Addr} {fc:Nat} {zs:List Ac} (va:Value) (l:List Int) (i:Nat) (hi:i<800000) (hv:OM I va l) (hN:zs.length≤20) (hf:∀z∈zs,tq I zs.length z)
 (h:Sat W w (sep (bM B va i day (.slice fa zs.length fc)) (sep (aT 36 19 fa zs.length fc (bY zs)) (sep (kn I) A)))):
 Calls Tryz.prog 58 #[.pointer (some ⟨B,0,none⟩)] w fun e w'=>∃(z:Ac) (y:Pa) (J:Mem) (i':Nat),e=.returned (.agg z.cells.toArray)∧lT J z y∧Df zs.length y∧Mem.le I J∧i≤i'∧i'≤i+60∧Sat W w' (sep (bM B va i' day (.slice fa zs.length fc)) (sep (aT 36 19 fa zs.length fc (bY zs)) (sep (kn J) A))):=by
 obtain⟨N,hNN⟩:=aC (zs.length);rw[←hNN] at hN h hf ⊢;obtain⟨R,hR⟩:=aC (w.heap.size);obtain⟨w1,hw1⟩:=aC (w.alloc (.cells iW 36));have h1:=h.alloc (.cells iW 36);rw[←hR,←hw1] at h1;obtain⟨fr,hfr⟩:=aC (sep (aT 36 19 fa N fc (bY zs)) (sep (blk R (.cells iW 36 (0,0))) A));have h2:Sat W w1 (sep (bM B va i day (.slice fa N fc)) (sep (kn I) fr)):=by
  rw[hfr];simpa only[aA,au,aj] using h1
 have hcall:∀(p:Nat),p<900000→∀(w0:World) (A0:aB),Sat W w0 (sep (sep (bM B va p day (.slice fa N fc)) (kn I)) A0)→Calls Tryz.prog 57 #[.pointer (some ⟨B,0,none⟩),.int .i64 2] w0 fun e w'=>∃v,e=.returned v∧Sat W w' (sep (sep (fact (v=.int .i64 (dH l p 2))) (sep (bM B va ((p+1:Nat):Int) day (.slice fa N fc)) (kn I))) A0):=by
  intro p hp w0 A0 h0;rw[aj] at h0;refine (aS va l p 2 (by omega) (by omega) (by omega) hv h0).mono ?_;rintro e w' ⟨rfl,h3⟩;exact⟨_,rfl,by rw[aj,aj];exact Sat.fact.2 ⟨rfl,h3⟩⟩
 have hb1:=bF l i 2 (by omega);have hb2:=bF l (i+1) 2 (by omega);obtain⟨a1,ha1⟩:=aC (dH l i 2);obtain⟨a2,ha2⟩:=aC (dH l (i+1) 2);have c1:=hcall i (by omega);have c2:=hcall (i+1) (by omega);rw[←ha1] at hb1 c1;rw[←ha2] at hb2 c2;have C1:=ah c1;have C2:=ah c2;have HR:=ah (aH hR hw1);have KE:=ah hfr;have H2:=ah h2.drew;have HV:=ah hv;have KT:=ah hf;have hNz:(N:Int)≤20:=by omega
 have hS0:w1.drew.cell? ⟨B,3,none⟩=some (.slice fa N fc):=h2.drew.cell 3;have hmod:(5*(N:Int)).tmod 4096=5*(N:Int):=by rw[Int.tmod_eq_emod_of_nonneg (by omega)];omega
 have X6:=ah hNN;have HI:=ah hi;clear h h1 h2 hcall ha1 ha2 c1 c2 hR hw1 hfr hv hf hNN hN hi;go_enter Tryz.func58,Tryz.ntmps58;go_upto_region 1 with fail;rw[←HR.out.1,←HR.out.2];refine fE rfl (fun w'=>w'.cell? ⟨B,3,none⟩=some (.slice fa N fc)) [.one 0 .p,.one 1 .p,.one 2 .p,.one 3 .s,.one 4 .p,.one 5 .p,.one 6 .p,.one 7 .p,.one 9 .p,.grp true [(8,[]),(10,[11,12]),(13,[])],.one 14 (.e false)] (by kernel_rfl) ?_;refine mG ?_;have hw5:IntKind.i64.wrap (5*(N:Int))=5*(N:Int):=by unfold IntKind.wrap;simp[IntKind.bits,IntKind.signed];omega
 have hwa:IntKind.i64.wrap (1+a2)=1+a2:=by unfold IntKind.wrap;simp[IntKind.bits,IntKind.signed];omega
 rw[hw5,hmod];refine sZ (W:=W) (A:=fr) [⟨[(8,[]),(10,[11,12])],Oy (sep (bM B va (i:Int) day (.slice fa N fc)) (kn I)) (sep (bM B va ((i+1:Nat):Int) day (.slice fa N fc)) (kn I)) (sep (bM B va ((i+1+1:Nat):Int) day (.slice fa N fc)) (kn I)) (.int .i64 a1) (.int .i64 a2) [.int .i64 (1+a2),.agg (dV N a1 (1+a2) (-1) ak ak ak).cells.toArray]⟩,⟨[(13,[])],tailA emp Ij (fun g=>blk g (.cells iW 36 (0,0))) (fun _=>[])⟩]
  (fun _=>⟨_,List.mem_cons_self,twoA_S (fun w X h=>(show Sat W w (sep (blk B (.cells #[va,.int .i64 (i:Int),.int .i64 day,.slice fa N fc] 86 (0,0))) (sep (kn I) X)) from by rw[aj] at h;exact h).cell 3) (fun w X h=>(show Sat W w (sep (blk B (.cells #[va,.int .i64 ((i+1:Nat):Int),.int .i64 day,.slice fa N fc] 86 (0,0))) (sep (kn I) X)) from by rw[aj] at h;exact h).cell 3) (fun w X h=>(show Sat W w (sep (blk B (.cells #[va,.int .i64 ((i+1+1:Nat):Int),.int .i64 day,.slice fa N fc] 86 (0,0))) (sep (kn I) X)) from by rw[aj] at h;exact h).cell 3)⟩) (by kernel_rfl) ?_ ?_ ?_
 ·intro t ht
  simp only[List.mem_cons,List.not_mem_nil,or_false] at ht;rcases ht with rfl|rfl
  ·refine PS (di:=some 19) (dj:=some 21) rfl rfl rfl (by intro cs b h;cases h) rfl (by intro cs b h;cases h) (by kernel_rfl) (yG rfl 57 #[.pointer (some ⟨B,0,none⟩),.int .i64 2] (fun w'=>?_) C1.out) (yG rfl 57 #[.pointer (some ⟨B,0,none⟩),.int .i64 2] (fun w'=>?_) C2.out) (fun _=>rfl) (by kernel_rfl) ?_
   ·(go_simp;try rfl)
   ·(go_simp;try rfl)
   ·refine⟨⟨_,rfl,fun w'=>?_⟩,?_⟩
    ·simp only[Act.put,lsA,lsB,lq]
     go_simp
     try rw[hwa]
    ·change y8 _ _ (Act.put _ (some 22) _) _ _
     simp only[Act.put,lsA,lsB,lq];refine⟨⟨_,rfl,fun w'=>?_⟩,trivial⟩
     (go_simp;try rfl)
  ·refine xI rfl (by intro cs b h;cases h) (zW rfl (fun w'=>?_)) rfl ?_
   ·(go_simp;try rfl)
   ·intro _ _ _;trivial
 ·show Sat W w1.drew (sep emp (sep (sep (bM B va (i:Int) day (.slice fa N fc)) (kn I)) fr))
  rw[jc,aj];exact H2.out
 ·intro dn1 h1 dn2 h2 w7 h7
  obtain⟨rfl,h8⟩:=UC h1 rfl h7.p1;obtain⟨v10,q,rfl,hg,h9⟩:=yt h2 (fun _=>rfl) h8.p1;unfold Ij at hg;subst hg;have h10:Sat W w7 (sep (blk q (.cells iW 36 (0,0))) (sep (bM B va ((i+1+1:Nat):Int) day (.slice fa N fc)) (sep (kn I) fr))):=by
   have h10:=h9;simpa only[aA,au,aj] using h10
  have hst:=cZ h10.aO rfl (dV N a1 (1+a2) (-1) ak ak ak);have h11:=h10.setRow (dV N a1 (1+a2) (-1) ak ak ak).cells.toArray;obtain⟨w8,hw8⟩:=aC (w7.setRow q (dV N a1 (1+a2) (-1) ak ak ak).cells.toArray);rw[←hw8] at hst h11
  change ou _ _ _ _ _ _ (((((Act.put _ (some 19) (.int .i64 a1)).put (some 21) (.int .i64 a2)).put (some 22) (.int .i64 (1+a2))).put (some 23) (.agg (dV N a1 (1+a2) (-1) ak ak ak).cells.toArray)).put (some 3) (.pointer (some ⟨q,0,none⟩))) _
  simp only[Act.put,lsA,lsB,lq];have Yv:=ah h11;clear h1 h2 h7 h8 h9 h10 h11 hw8 H2 C1 C2 hS0 hw5 hwa
  (refine J_e rfl rfl (fun K hK=>?_);go_simp)
  refine dY ?_;clear hK K;refine wM ?_;clear hst;obtain⟨p1,hp1⟩:=aC (1+a2);rw[←hp1] at Yv ⊢;have pK:Hid ((a1=0∨a1=1)∧(p1=1∨p1=2)):=ah (by omega);clear hb1 hb2 hp1;obtain⟨i2,hi2⟩:=aC (i+1+1);rw[←hi2] at Yv;have HI2:=ah hi2;have HI8:Hid (i<800000):=HI;clear hi2 hmod;have hb3:=bF l i2 2 (by omega);obtain⟨a3,ha3⟩:=aC (dH l i2 2);have yB:=ah (aS va l i2 2 (by omega) (by omega) (by have:=HI2.out;have:=HI.out;omega) HV.out (show Sat W w8 (sep (bM B va (i2:Int) day (.slice fa N fc)) (sep (kn I) (sep (blk q (.cells (dV N a1 p1 (-1) ak ak ak).cells.toArray 36 (0,0))) fr))) from dI Yv.out));rw[←ha3] at hb3 yB;obtain⟨m0,rfl⟩:∃z:Nat,a3=(z:Int):=⟨a3.toNat,by omega⟩
  obtain⟨m,hm⟩:∃m:Nat,m=1+m0:=⟨_,rfl⟩
  have hmz:1+(m0:Int)=(m:Int):=by omega
  have hm3:(m:Int)≤2:=by omega
  have HM:Hid (1≤m∧m≤2):=ah (by omega);have hm0:(m0:Int)<2:=by omega
  clear ha3 hb3 hm Yv;go_wp2_with fail;refine yB.out.mono ?_;rintro e w9 ⟨rfl,h9⟩;have HS9:=ah h9;clear h9 yB;go_upto_block 0 with fail;go_cut [5] from 10 (fun iv wx=>∃(sd:Sv) (fs:List Fm) (J:Mem) (pos:Nat),Hid ((rF.slice 4).rel J [.slice sd.a sd.n sd.c] fs∧1≤fs.length∧fs.length≤2∧(∀f∈fs,dA f)∧Mem.le I J∧i2+1≤pos∧pos≤i2+3∧Sat W wx (sep (bM B va (pos:Int) day (.slice fa N fc)) (sep (kn J) (sep (blk q (.cells (dV N a1 p1 (-1) sd ak ak).cells.toArray 36 (0,0))) fr)))))
  case first=>
   as_aux_lemma=>
    clear HR KE KT pK hm0 hmz HI;go_wp2_with fail;go_loopw [5] (fun iv wr=>∃(x n c pos:Nat) (a:Option Addr) (vs:List Value) (fs:List Fm) (J:Mem),iv=.int .i64 x∧x≤m∧Hid (n=x∧fs.length=x∧Mem.le I J∧(rF.rows 4).rel J vs fs∧(∀f∈fs,dA f)∧i2+1≤pos∧pos≤i2+1+x∧Sat W wr (sep (aT 34 4 a n c vs) (sep (bM B va (pos:Int) day (.slice fa N fc)) (sep (kn J) (sep (blk q (.cells (dV N a1 p1 (-1) ⟨a,n,c⟩ ak ak).cells.toArray 36 (0,0))) fr)))))) (fun iv _=>3-(intOf iv).toNat)
    case atStart=>exact⟨0,0,0,i2+1,none,[],[],I,rfl,by omega,ah ⟨rfl,rfl,bW _,⟨[],rfl,trivial⟩,(by intro f hf;cases hf),by omega,by omega,HS9.out.fV 34 4⟩⟩
    case round=>
     obtain⟨x,n,c,pos,a,vs,fs,J,rfl,hxm,HL⟩:=hrel;by_cases hlt:x<m
     ·have hltz:(x:Int)<(m:Int):=by omega
      have ajA:(x:Int)<2:=by omega
      have hd:=HL.out.2.2.2.2.2.2.2.drew;have xw:=ah (xH va l pos (by have:=HL.out.2.2.2.2.2.2.1;have:=HI2.out;have:=HI8.out;omega) (HV.out.mono HL.out.2.2.1) (show Sat W wr.drew (sep (bM B va (pos:Int) day (.slice fa N fc)) (sep (kn J) (sep (aT 34 4 a n c vs) (sep (blk q (.cells (dV N a1 p1 (-1) ⟨a,n,c⟩ ak ak).cells.toArray 36 (0,0))) fr)))) from by
       have h9:=hd;simpa only[aA,au,aj] using h9))
      have hS0:wr.drew.cell? ⟨q,11,none⟩=some (.slice a n c):=(show Sat W wr.drew (sep (blk q (.cells (dV N a1 p1 (-1) ⟨a,n,c⟩ ak ak).cells.toArray 36 (0,0))) (sep (bM B va (pos:Int) day (.slice fa N fc)) (sep (kn J) (sep (aT 34 4 a n c vs) fr)))) from by
       have h9:=hd;simpa only[aA,au,aj] using h9).cell 11
      clear hd hlt hxm;go_upto_region 6 with fail;refine aG rfl (fun w'=>w'.cell? ⟨q,11,none⟩=some (.slice a n c)) [(0,.p),(1,.p),(2,.s),(3,.p),(4,.e true),(5,.e true),(6,.e false),(7,.p),(8,.p),(9,.e false)] (by kernel_rfl) ?_;refine bG ?_
      (refine jJ rfl rfl (fun K hK=>?_);go_simp)
      refine xw.out.mono ?_;rintro e w2 ⟨f,fo,fn,fi,fk,J2,rfl,hgf,hle2,RN,h2⟩;have h3:Sat W w2 (sep (blk q (.cells (dV N a1 p1 (-1) ⟨a,n,c⟩ ak ak).cells.toArray 36 (0,0))) (sep (aT 34 4 a n c vs) (sep (bM B va ((pos+1:Nat):Int) day (.slice fa N fc)) (sep (kn J2) fr)))):=by
       have h9:=h2;simpa only[aA,au,aj] using h9
      have H3:=ah h3;have HG:=ah (aH hgf (aH hle2 RN));clear h2 hgf hle2 RN xw hS0
      (refine hK _ _ (fun _=>h3.cell 11) ?_;clear hK K;(try simp only[Act.put,lsA,lsB,lq]))
      have hS0:w2.cell? ⟨q,11,none⟩=some (.slice a n c):=h3.cell 11;clear h3;refine bG ?_
      (refine jJ rfl rfl (fun K hK=>?_);go_simp)
      (refine hK _ _ (fun _=>(H3.out.iy _).cell 11) ?_;clear hK K;(try simp only[Act.put,lsA,lsB,lq]))
      refine jJ rfl rfl (fun K hK=>?_);refine jS (.tmp 34) (.tmp 37) 27 rfl 34 4 64 _ Tryz.underlying27 iQ rfl rfl (H3.out.iy _).p1 rfl [.int .i64 fo,.int .i64 fn,.slice fi.a fi.n fi.c,.slice fk.a fk.n fk.c] rfl (by simp) (by intro b hb;cases hb;exact jm _ _ _) (JJ HG.out.2.2) (by have:=HL.out.1;omega) (by unfold maxLen;have:=HL.out.1;omega) ?_;intro a2 c2 w3 h4;refine dY ?_;clear hK K;refine bG ?_;have h5:=h4.p1;have q1:w3.cell? ⟨q,11,none⟩=some (.slice a n c):=h5.cell 11;have q2:=h5.aI 11;have h6:=h5.setCell 11 (.slice a2 (n+1) c2);have H6:=ah h6;clear h4 h5 h6 H3 hS0
      (refine jJ rfl rfl (fun K hK=>?_);go_simp)
      refine dY ?_;clear hK K;refine bG ?_;refine dJ ?_;go_wp2;go_roundw;case rel=>
       obtain⟨hn,hlen,hle,hrows,hg,hp1,hp2,-⟩:=HL.out;refine⟨x+1,n+1,c2,pos+1,a2,vs++[.int .i64 fo,.int .i64 fn,.slice fi.a fi.n fi.c,.slice fk.a fk.n fk.c],fs++[f],J2,by go_num,by omega,ah ⟨by omega,by simp[hlen],eG hle HG.out.2.1,nZ ((rF.rows 4).mono HG.out.2.1 hrows) HG.out.2.2 rfl,?_,by omega,by omega,?_⟩⟩
       ·intro g hgm
        rcases List.mem_append.1 hgm with h|h
        ·exact hg g h
        ·rw[vW h];exact HG.out.1
       ·have h9:=H6.out
        have e9:((dV N a1 p1 (-1) ⟨a,n,c⟩ ak ak).cells.toArray.setIfInBounds 11 (.slice a2 (n+1) c2))=(dV N a1 p1 (-1) ⟨a2,n+1,c2⟩ ak ak).cells.toArray:=by simp[dV,Ac.cells]
        rw[e9] at h9;simpa only[aA,au,aj] using h9
      case measure=>simp[intOf];omega
     ·have hxe:x=m:=by omega
      have hltz:¬(x:Int)<(m:Int):=by omega
      have FZ:=ah hxe;clear hxe hlt hxm;go_wp2;go_meet;case rel=>
       obtain⟨hn,hlen,hle,hrows,hg,hp1,hp2,hS⟩:=HL.out;have hsw:=hS.fQ;have hxe:=FZ.out;have hM:=HM.out;obtain⟨J',hle',hJ',h9⟩:=(show Sat W wr (sep (U0 a vs) (sep (kn J) (sep (bM B va (pos:Int) day (.slice fa N fc)) (sep (blk q (.cells (dV N a1 p1 (-1) ⟨a,n,c⟩ ak ak).cells.toArray 36 (0,0))) fr)))) from by
        have h9:=hS.eF;simpa only[aA,au,aj] using h9).learn
       exact⟨⟨a,n,c⟩,fs,J',pos,ah ⟨⟨a,c,vs,by rw[hn,hlen],by rw[hlen,←hn];exact hsw,hJ',(rF.rows 4).mono hle' hrows⟩,by omega,by omega,hg,eG hle hle',hp1,by omega,h9.p1⟩⟩
  case rest=>
   as_aux_lemma=>
    obtain⟨sd,fs,J,pos,HC⟩:=hcut;have FP:=ah (vI va l pos (by have:=HC.out.2.2.2.2.2.2.1;have:=HI2.out;have:=HI.out;omega) (HV.out.mono HC.out.2.2.2.2.1) HC.out.2.2.2.2.2.2.2);go_wp2_with fail;refine FP.out.mono ?_;rintro e w2 ⟨cl,ca,cn,cc,J2,pos2,rfl,hgc,hle2,hrc,hp1,hp2,h2⟩;have h3:Sat W w2 (sep (blk q (.cells (dV N a1 p1 (-1) sd ak ak).cells.toArray 36 (0,0))) (sep (bM B va (pos2:Int) day (.slice fa N fc)) (sep (kn J2) fr))):=by
     have h9:=h2;simpa only[aA,au,aj] using h9
    have q1:w2.cell? ⟨q,12,none⟩=some (.slice none 0 0):=h3.cell 12;have q2:=h3.aI 12;obtain⟨w3,hw3⟩:=aC (w2.setCell ⟨q,12,none⟩ (.slice ca cn cc));have h4:=h3.setCell 12 (.slice ca cn cc);have e9:((dV N a1 p1 (-1) sd ak ak).cells.toArray.setIfInBounds 12 (.slice ca cn cc))=(dV N a1 p1 (-1) sd ⟨ca,cn,cc⟩ ak).cells.toArray:=by simp[dV,Ac.cells]
    rw[e9,←hw3] at h4;have hfc:w3.cell? ⟨B,3,none⟩=some (.slice fa N fc):=(show Sat W w3 (sep (blk B (.cells #[va,.int .i64 (pos2:Int),.int .i64 day,.slice fa N fc] 86 (0,0))) (sep (blk q (.cells (dV N a1 p1 (-1) sd ⟨ca,cn,cc⟩ ak).cells.toArray 36 (0,0))) (sep (kn J2) fr))) from h4.p1).cell 3;have HW3:=ah hw3;have HG:Hid (Mem.le I J2∧(rF.slice 4).rel J2 [.slice sd.a sd.n sd.c] fs∧(lM.slice 5).rel J2 [.slice ca cn cc] cl∧AA fs cl∧i≤pos2∧pos2≤i+30):=ah ⟨eG HC.out.2.2.2.2.1 hle2,(rF.slice 4).mono hle2 HC.out.1,hrc,⟨HC.out.2.1,HC.out.2.2.1,HC.out.2.2.2.1,hgc⟩,by have:=HC.out.2.2.2.2.2.1;have:=HI2.out;omega,by have:=HC.out.2.2.2.2.2.2.1;have:=HI2.out;omega⟩;have H4:Hid (Sat W w3 (sep (bM B va (pos2:Int) day (.slice fa N fc)) (sep (kn J2) (sep (blk q (.cells (dV N a1 p1 (-1) sd ⟨ca,cn,cc⟩ ak).cells.toArray 36 (0,0))) fr)))):=ah (dI h4);clear h2 h3 h4 hw3 e9 hgc hle2 hrc hp1 hp2 FP HC HS9 hm3 hmz hm0;go_upto_region 8 with fail;rw[←HW3.out];go_upto_region 9 with fail;clear q1 q2 hfc HW3;obtain⟨UA,abL⟩:∃z:Sv,z=⟨ca,cn,cc⟩:=⟨_,rfl⟩
    rw[←abL] at H4;have HTC:=ah abL;clear abL;go_cut [56] from 50 (fun bv wx=>∃(bb:Bool) (pos:Nat),bv=.bool bb∧(bb=true→0<N)∧Hid (i≤pos∧pos≤i+31∧Sat W wx (sep (bM B va (pos:Int) day (.slice fa N fc)) (sep (kn J2) (sep (blk q (.cells (dV N a1 p1 (-1) sd UA ak).cells.toArray 36 (0,0))) fr)))))
    case first=>
     as_aux_lemma=>
      by_cases hN0:N=0
      ·have afv:¬(0:Int)<(N:Int):=by omega
       clear hN0;go_wp2;go_meet;case rel=>exact⟨false,pos2,rfl,(by intro h;cases h),ah ⟨HG.out.2.2.2.2.1,by have:=HG.out.2.2.2.2.2;omega,H4.out⟩⟩
      ·have hN1:(0:Int)<(N:Int):=by omega
       have HN5:=ah (aS va l pos2 3 (by omega) (by omega) (by have:=HG.out.2.2.2.2.2;have:=HI.out;omega) (HV.out.mono HG.out.1) H4.out);obtain⟨z5,hz5⟩:=aC (dH l pos2 3);rw[←hz5] at HN5;obtain⟨t5,ht5⟩:∃b,(z5==0)=b:=⟨_,rfl⟩
       have kM:=ah hN1;clear hN0 hz5;go_wp2_with fail;refine HN5.out.mono ?_;rintro e w6 ⟨rfl,h6⟩;have H6:=ah h6;clear h6 HN5;go_wp2;go_meet;case rel=>exact⟨t5,pos2+1,rfl,(fun _=>by have:=kM.out;omega),ah ⟨by have:=HG.out.2.2.2.2.1;omega,by have:=HG.out.2.2.2.2.2;omega,H6.out⟩⟩
    case rest=>
     as_aux_lemma=>
      obtain⟨bb,pos,rfl,hbN,HC⟩:=hcut;clear H4;go_upto_if 56 with fail;go_cut [] from 57 (fun wx=>∃(o p2 q0:Int) (s t:Sv) (fs:List Fm) (cl:List Cl) (J:Mem) (pos:Nat),Hid ((o=0∨o=1)∧(p2=1∨p2=2)∧(q0=-1∨fH N q0)∧(rF.slice 4).rel J [s.v] fs∧(lM.slice 5).rel J [t.v] cl∧AA fs cl∧Mem.le I J∧i≤pos∧pos≤i+40∧Sat W wx (sep (bM B va (pos:Int) day (.slice fa N fc)) (sep (kn J) (sep (blk q (.cells (dV N o p2 q0 s t ak).cells.toArray 36 (0,0))) fr)))))
      case first=>
       as_aux_lemma=>
        cases bb with
        | false=>
         go_wp2;go_meet;case rel=>exact⟨a1,p1,-1,sd,UA,fs,cl,J2,pos,ah ⟨pK.out.1,pK.out.2,.inl rfl,HG.out.2.1,by rw[HTC.out];exact HG.out.2.2.1,HG.out.2.2.2.1,HG.out.1,HC.out.1,by have:=HC.out.2.1;omega,HC.out.2.2⟩⟩
        | true=>
         have hN1:0<N:=hbN rfl;have afx:(0:Int)<(N:Int):=by omega
         have hC:=HC.out.2.2;rw[KE.out] at hC;have hC2:Sat W wc (sep (aT 36 19 fa N fc (bY zs)) (sep (bM B va (pos:Int) day (.slice fa N fc)) (sep (kn J2) (sep (blk q (.cells (dV N a1 p1 (-1) sd UA ak).cells.toArray 36 (0,0))) (sep (blk R (.cells iW 36 (0,0))) A))))):=by
          have h9:=hC;simpa only[aA,au,aj] using h9
         obtain⟨g,rfl⟩:∃g,fa=some ⟨g,0,none⟩:=by
          rcases hC2.iD with ⟨-,h0,-⟩|⟨g,cur,rfl,-⟩
          ·omega
          ·exact⟨g,rfl⟩
         have hS0:wc.drew.cell? ⟨B,3,none⟩=some (.slice (some ⟨g,0,none⟩) N fc):=(show Sat W wc.drew (sep (blk B (.cells #[va,.int .i64 (pos:Int),.int .i64 day,.slice (some ⟨g,0,none⟩) N fc] 86 (0,0))) (sep (aT 36 19 (some ⟨g,0,none⟩) N fc (bY zs)) (sep (kn J2) (sep (blk q (.cells (dV N a1 p1 (-1) sd UA ak).cells.toArray 36 (0,0))) (sep (blk R (.cells iW 36 (0,0))) A))))) from hC2.p1.drew).cell 3;have YG:Hid (Sat W wc.drew (sep (sep (bM B va (pos:Int) day (.slice (some ⟨g,0,none⟩) N fc)) (sep (kn J2) (aT 36 19 (some ⟨g,0,none⟩) N fc (bY zs)))) (sep (blk q (.cells (dV N a1 p1 (-1) sd UA ak).cells.toArray 36 (0,0))) (sep (blk R (.cells iW 36 (0,0))) A)))):=ah (by
          have h9:=hC2.drew;simpa only[aA,au,aj] using h9)
         have rW:pos<1000000:=by have:=HC.out.2.1;have:=HI.out;omega
         have iL:=HG.out.1;clear hC hC2 hbN;go_upto_region 10 with fail;have hb6:=bF l pos N (by omega);obtain⟨r0,hr0⟩:=aC (dH l pos N);rw[←hr0] at hb6;obtain⟨r,rfl⟩:∃z:Nat,r0=(z:Int):=⟨r0.toNat,by omega⟩
         have hrN:r<N:=by omega
         have hrz:(r:Int)<(N:Int):=by omega
         have hrl:r<zs.length:=by have:=X6.out;omega
         obtain⟨zr,hzr⟩:=aC (zs[r]);have UU:Hid (tq I N zr∧zs[r]?=some zr):=ah ⟨by rw[hzr];exact KT.out _ (List.getElem_mem hrl),by rw[hzr];exact iM hrl⟩;have HC6:Hid (∀(w0:World) (A0:aB),Sat W w0 (sep (sep (bM B va (pos:Int) day (.slice (some ⟨g,0,none⟩) N fc)) (sep (kn J2) (aT 36 19 (some ⟨g,0,none⟩) N fc (bY zs)))) A0)→Calls Tryz.prog 57 #[.pointer (some ⟨B,0,none⟩),.int .i64 N] w0 fun e w'=>∃v,e=.returned v∧Sat W w' (sep (sep (fact (v=.int .i64 (r:Int))) (sep (bM B va ((pos+1:Nat):Int) day (.slice (some ⟨g,0,none⟩) N fc)) (sep (kn J2) (aT 36 19 (some ⟨g,0,none⟩) N fc (bY zs))))) A0)):=ah (by
          intro w0 A0 h0;have abw:pos<1000000:=rW;refine (aS va l pos N (by omega) (by omega) abw (HV.out.mono iL) (show Sat W w0 (sep (bM B va (pos:Int) day (.slice (some ⟨g,0,none⟩) N fc)) (sep (kn J2) (sep (aT 36 19 (some ⟨g,0,none⟩) N fc (bY zs)) A0))) from by rw[aj,aj] at h0;exact h0)).mono ?_;rintro e w' ⟨rfl,h3⟩;refine⟨_,rfl,?_⟩;rw[aj];refine Sat.fact.2 ⟨by rw[hr0],?_⟩;rw[aj,aj];exact h3)
         clear hr0 hb6 hzr;refine fE rfl (fun w'=>w'.cell? ⟨B,3,none⟩=some (.slice (some ⟨g,0,none⟩) N fc)) [.one 0 .p,.one 1 .p,.one 2 .p,.one 3 .s,.one 4 .p,.one 5 .p,.grp true [(6,[7]),(8,[]),(9,[])],.one 10 (.e false)] (by kernel_rfl) ?_;refine mG ?_;refine sZ (W:=W) (A:=(sep (blk q (.cells (dV N a1 p1 (-1) sd UA ak).cells.toArray 36 (0,0))) (sep (blk R (.cells iW 36 (0,0))) A))) [⟨[(6,[7]),(8,[])],X7 (sep (bM B va (pos:Int) day (.slice (some ⟨g,0,none⟩) N fc)) (sep (kn J2) (aT 36 19 (some ⟨g,0,none⟩) N fc (bY zs)))) (sep (bM B va ((pos+1:Nat):Int) day (.slice (some ⟨g,0,none⟩) N fc)) (sep (kn J2) (aT 36 19 (some ⟨g,0,none⟩) N fc (bY zs)))) (sep (bM B va ((pos+1:Nat):Int) day (.slice (some ⟨g,0,none⟩) N fc)) (sep (kn J2) (aT 36 19 (some ⟨g,0,none⟩) N fc (bY zs)))) (.int .i64 r) (.pointer (some ⟨g,r*19,none⟩)) (.agg zr.cells.toArray)⟩,⟨[(9,[])],tailA emp Ij (fun g=>blk g (.cells iW 36 (0,0))) (fun _=>[])⟩]
          (fun _=>⟨_,List.mem_cons_self,aas (fun w X h=>(show Sat W w (sep (blk B (.cells #[va,.int .i64 (pos:Int),.int .i64 day,.slice (some ⟨g,0,none⟩) N fc] 86 (0,0))) (sep (sep (kn J2) (aT 36 19 (some ⟨g,0,none⟩) N fc (bY zs))) X)) from by rw[aj] at h;exact h).cell 3) (fun w X h=>(show Sat W w (sep (blk B (.cells #[va,.int .i64 (((pos+1:Nat):Int):Int),.int .i64 day,.slice (some ⟨g,0,none⟩) N fc] 86 (0,0))) (sep (sep (kn J2) (aT 36 19 (some ⟨g,0,none⟩) N fc (bY zs))) X)) from by rw[aj] at h;exact h).cell 3) (fun w X h=>(show Sat W w (sep (blk B (.cells #[va,.int .i64 (((pos+1:Nat):Int):Int),.int .i64 day,.slice (some ⟨g,0,none⟩) N fc] 86 (0,0))) (sep (sep (kn J2) (aT 36 19 (some ⟨g,0,none⟩) N fc (bY zs))) X)) from by rw[aj] at h;exact h).cell 3)⟩) (by kernel_rfl) ?_ ?_ ?_
         ·intro t ht
          simp only[List.mem_cons,List.not_mem_nil,or_false] at ht;rcases ht with rfl|rfl
          ·refine Ht (di:=some 63) (dk:=some 64) rfl rfl rfl (by intro cs b h;cases h) rfl (by intro cs b h;cases h) (by kernel_rfl) (yG rfl 57 #[.pointer (some ⟨B,0,none⟩),.int .i64 N] (fun w'=>?_) HC6.out) (by kernel_rfl) ?_ (Ry rfl (fun w' A' hw'=>⟨w',?_,hw'⟩)) (fun _ _=>rfl)
           ·(go_simp;try rfl)
           ·refine⟨⟨_,rfl,fun w'=>?_⟩,trivial⟩
            simp only[Act.put,lsA,lsB,lq]
            (go_simp;try rfl)
           ·have hld:=sV (JC (show Sat W w' (sep (aT 36 19 (some ⟨g,0,none⟩) N fc (bY zs)) (sep (bM B va ((pos+1:Nat):Int) day (.slice (some ⟨g,0,none⟩) N fc)) (sep (kn J2) A'))) from by have h9:=hw';simpa only[aA,au,aj] using h9) r hrl)
            rw[show zs[r]=zr from by have:=UU.out.2;rw[iM hrl] at this;exact Option.some.inj this] at hld;simp only[Act.put,lsA,lsB,lq]
            (go_simp;try rfl)
          ·refine xI rfl (by intro cs b h;cases h) (zW rfl (fun w'=>?_)) rfl ?_
           ·(go_simp;try rfl)
           ·intro _ _ _;trivial
         ·show Sat W _ (sep emp (sep (sep (bM B va (pos:Int) day (.slice (some ⟨g,0,none⟩) N fc)) (sep (kn J2) (aT 36 19 (some ⟨g,0,none⟩) N fc (bY zs)))) (sep (blk q (.cells (dV N a1 p1 (-1) sd UA ak).cells.toArray 36 (0,0))) (sep (blk R (.cells iW 36 (0,0))) A))))
          rw[jc];exact YG.out
         ·intro dn1 h1 dn2 h2 w7' h7
          obtain⟨rfl,h8⟩:=LJ h1 h7.p1;obtain⟨v10,pP,rfl,hg,h9⟩:=yt h2 (fun _=>rfl) h8.p1;unfold Ij at hg;subst hg;have h10:Sat W w7' (sep (blk pP (.cells iW 36 (0,0))) (sep (sep (bM B va ((pos+1:Nat):Int) day (.slice (some ⟨g,0,none⟩) N fc)) (sep (kn J2) (aT 36 19 (some ⟨g,0,none⟩) N fc (bY zs)))) (sep (blk q (.cells (dV N a1 p1 (-1) sd UA ak).cells.toArray 36 (0,0))) (sep (blk R (.cells iW 36 (0,0))) A)))):=h9;have hst:=cZ h10.aO rfl zr;have h11:=h10.setRow zr.cells.toArray;obtain⟨Yt,WJ⟩:=aC (w7'.setRow pP zr.cells.toArray);rw[←WJ] at hst h11
          change ou _ _ _ _ _ _ ((((Act.put _ (some 63) (.int .i64 r)).put (some 64) (.pointer (some ⟨g,r*19,none⟩))).put (some 65) (.agg zr.cells.toArray)).put (some 7) (.pointer (some ⟨pP,0,none⟩))) _
          simp only[Act.put,lsA,lsB,lq];have XQ:=ah h11;clear h1 h2 h7 h8 h9 h10 h11 WJ YG hS0 HC6
          (refine J_e rfl rfl (fun K hK=>?_);go_simp)
          refine dY ?_;clear hK K;refine wM ?_;clear hst;have wG:Sat W Yt (sep (blk pP (.cells zr.cells.toArray 36 (0,0))) (sep (blk q (.cells (dV N a1 p1 (-1) sd UA ak).cells.toArray 36 (0,0))) (sep (bM B va ((pos+1:Nat):Int) day (.slice (some ⟨g,0,none⟩) N fc)) (sep (kn J2) fr)))):=by
           rw[KE.out];have h9:=XQ.out;simpa only[aA,au,aj] using h9
          have k1:Yt.cell? ⟨pP,11,none⟩=some (.slice zr.td.a zr.td.n zr.td.c):=(ay wG 11 _ rfl).1;have k2:Yt.cell? ⟨pP,12,none⟩=some (.slice zr.tc.a zr.tc.n zr.tc.c):=(ay wG 12 _ rfl).1;have h15:=wG.p1;have j1:=ay h15 11 (.slice sd.a sd.n sd.c) rfl;have j2:=ay h15 12 (.slice UA.a UA.n UA.c) rfl;obtain⟨j1a,j1b⟩:=j1;obtain⟨j2a,j2b⟩:=j2;have h16:=(h15.setCell 11 (.slice zr.td.a zr.td.n zr.td.c)).setCell 12 (.slice zr.tc.a zr.tc.n zr.tc.c);have e9:((dV N a1 p1 (-1) sd UA ak).cells.toArray.setIfInBounds 11 (.slice zr.td.a zr.td.n zr.td.c)).setIfInBounds 12 (.slice zr.tc.a zr.tc.n zr.tc.c)=(dV N a1 p1 (-1) zr.td zr.tc ak).cells.toArray:=by simp[dV,Ac.cells]
          rw[e9] at h16;obtain⟨w14,abP⟩:=aC ((Yt.setCell ⟨q,11,none⟩ (.slice zr.td.a zr.td.n zr.td.c)).setCell ⟨q,12,none⟩ (.slice zr.tc.a zr.tc.n zr.tc.c));rw[←abP] at h16;have SL:=ah h16;have acY:=ah abP;clear wG h15 h16 e9 abP XQ;go_upto_region 12 with fail;rw[←acY.out];clear k1 k2 j1a j1b j2a j2b acY;have HN7:=ah (aS va l (pos+1) 3 (by omega) (by omega) (by have:=HC.out.2.1;have:=HI.out;omega) (HV.out.mono HG.out.1) (show Sat W w14 (sep (bM B va ((pos+1:Nat):Int) day (.slice (some ⟨g,0,none⟩) N fc)) (sep (kn J2) (sep (blk q (.cells (dV N a1 p1 (-1) zr.td zr.tc ak).cells.toArray 36 (0,0))) (sep (blk pP (.cells zr.cells.toArray 36 (0,0))) fr)))) from dI SL.out));obtain⟨z7,hz7⟩:=aC (dH l (pos+1) 3);rw[←hz7] at HN7;clear hz7 SL;obtain⟨t7,ht7⟩:∃b,decide (0<z7)=b:=⟨_,rfl⟩
          go_wp2_with fail;refine HN7.out.mono ?_;rintro e w15 ⟨rfl,h17⟩;have h18:Sat W w15 (sep (blk pP (.cells zr.cells.toArray 36 (0,0))) (sep (blk q (.cells (dV N a1 p1 (-1) zr.td zr.tc ak).cells.toArray 36 (0,0))) (sep (bM B va ((pos+1+1:Nat):Int) day (.slice (some ⟨g,0,none⟩) N fc)) (sep (kn J2) fr)))):=by
           have h9:=h17;simpa only[aA,au,aj] using h9
          have IL:=ah h18;clear h17 h18 HN7;go_upto_if 71 with fail;go_cut [] from 72 (fun wx=>∃p':Int,Hid ((p'=1∨p'=2)∧Sat W wx (sep (blk pP (.cells zr.cells.toArray 36 (0,0))) (sep (blk q (.cells (dV N a1 p' (-1) zr.td zr.tc ak).cells.toArray 36 (0,0))) (sep (bM B va ((pos+1+1:Nat):Int) day (.slice (some ⟨g,0,none⟩) N fc)) (sep (kn J2) fr))))))
          case first=>
           cases t7 with
           | true=>
            have k1:w15.cell? ⟨pP,5,none⟩=some (.int .i64 zr.p):=(ay IL.out 5 _ rfl).1;obtain⟨j1a,j1b⟩:=ay IL.out.p1 5 (.int .i64 p1) rfl;go_wp2;go_meet;case rel=>
             have h9:=IL.out.p1.setCell 5 (.int .i64 zr.p);have e9:(dV N a1 p1 (-1) zr.td zr.tc ak).cells.toArray.setIfInBounds 5 (.int .i64 zr.p)=(dV N a1 zr.p (-1) zr.td zr.tc ak).cells.toArray:=by simp[dV,Ac.cells]
             rw[e9] at h9;exact⟨zr.p,ah ⟨UU.out.1.2.2.1,h9.p1⟩⟩
           | false=>
            go_wp2;go_meet;case rel=>exact⟨p1,ah ⟨pK.out.2,IL.out⟩⟩
          case rest=>
           obtain⟨p',HQ⟩:=hcut;clear IL ht7;have YB:=ah (aS va l (pos+1+1) 2 (by omega) (by omega) (by have:=HC.out.2.1;have:=HI.out;omega) (HV.out.mono HG.out.1) (show Sat W wc (sep (bM B va ((pos+1+1:Nat):Int) day (.slice (some ⟨g,0,none⟩) N fc)) (sep (kn J2) (sep (blk q (.cells (dV N a1 p' (-1) zr.td zr.tc ak).cells.toArray 36 (0,0))) (sep (blk pP (.cells zr.cells.toArray 36 (0,0))) fr)))) from dI HQ.out.2));obtain⟨z8,hz8⟩:=aC (dH l (pos+1+1) 2);rw[←hz8] at YB;clear hz8;obtain⟨t8,ht8⟩:∃b,(z8==0)=b:=⟨_,rfl⟩
           go_wp2_with fail;refine YB.out.mono ?_;rintro e w16 ⟨rfl,h17⟩;have h18:Sat W w16 (sep (blk pP (.cells zr.cells.toArray 36 (0,0))) (sep (blk q (.cells (dV N a1 p' (-1) zr.td zr.tc ak).cells.toArray 36 (0,0))) (sep (bM B va ((pos+1+1+1:Nat):Int) day (.slice (some ⟨g,0,none⟩) N fc)) (sep (kn J2) fr)))):=by
            have h9:=h17;simpa only[aA,au,aj] using h9
           have IL:=ah h18;clear h17 h18 YB;have HZ9:Hid (∃fs' cl',(rF.slice 4).rel J2 [zr.td.v] fs'∧(lM.slice 5).rel J2 [zr.tc.v] cl'∧AA fs' cl'):=ah (by
            obtain⟨-,-,-,-,-,td,tc,h1,h2,h3⟩:=UU.out.1;exact⟨td,tc,(rF.slice 4).mono HG.out.1 h1,(lM.slice 5).mono HG.out.1 h2,h3⟩)
           cases t8 with
           | true=>
            have k1:w16.cell? ⟨pP,3,none⟩=some (.int .i64 zr.f):=(ay IL.out 3 _ rfl).1;have k2:w16.cell? ⟨pP,4,none⟩=some (.int .i64 zr.o):=(ay IL.out 4 _ rfl).1;have k3:w16.cell? ⟨pP,5,none⟩=some (.int .i64 zr.p):=(ay IL.out 5 _ rfl).1;obtain⟨j1a,j1b⟩:=ay IL.out.p1 6 (.int .i64 (-1)) rfl;obtain⟨j2a,j2b⟩:=ay IL.out.p1 4 (.int .i64 a1) rfl;obtain⟨j3a,j3b⟩:=ay IL.out.p1 5 (.int .i64 p') rfl;have hne:pP≠q:=(IL.out).Xa;have hne2:¬q=pP:=fun e=>hne e.symm
            go_wp2;go_meet;case rel=>
             have h9:=((IL.out.p1.setCell 6 (.int .i64 zr.f)).setCell 4 (.int .i64 zr.o)).setCell 5 (.int .i64 zr.p);have e9:(((dV N a1 p' (-1) zr.td zr.tc ak).cells.toArray.setIfInBounds 6 (.int .i64 zr.f)).setIfInBounds 4 (.int .i64 zr.o)).setIfInBounds 5 (.int .i64 zr.p)=(dV N zr.o zr.p zr.f zr.td zr.tc ak).cells.toArray:=by simp[dV,Ac.cells]
             rw[e9] at h9;obtain⟨fs',cl',h1,h2,h3⟩:=HZ9.out;exact⟨zr.o,zr.p,zr.f,zr.td,zr.tc,fs',cl',J2,pos+1+1+1,ah ⟨UU.out.1.2.1,UU.out.1.2.2.1,.inr UU.out.1.1,h1,h2,h3,HG.out.1,by have:=HC.out.1;omega,by have:=HC.out.2.1;omega,by have h8:=h9.p1.forget;have h9:=h8;simpa only[aA,au,aj] using h9⟩⟩
           | false=>
            go_wp2;go_meet;case rel=>
             obtain⟨fs',cl',h1,h2,h3⟩:=HZ9.out;exact⟨a1,p',-1,zr.td,zr.tc,fs',cl',J2,pos+1+1+1,ah ⟨pK.out.1,HQ.out.1,.inl rfl,h1,h2,h3,HG.out.1,by have:=HC.out.1;omega,by have:=HC.out.2.1;omega,by have h9:=IL.out.forget;simpa only[aA,au,aj] using h9⟩⟩
      case rest=>
       as_aux_lemma=>
        obtain⟨o0,p0,q0,s,t,fs,cl,J0,agm,lS⟩:=hcut;obtain⟨i9,hi9⟩:=aC (i+40);have HI9:=ah hi9;clear HC HG hbN pK HI8 HI2 HTC HM hi9;go_upto_block 2 with fail;go_cut [] from 11 (fun wx=>∃(o p2 q0:Int) (s t e:Sv) (fs:List Fm) (cl:List Cl) (es:List Ea) (J:Mem) (pos:Nat),Hid (((o=0∨o=1)∧(p2=1∨p2=2)∧(q0=-1∨fH N q0)∧(rF.slice 4).rel J [s.v] fs∧(lM.slice 5).rel J [t.v] cl∧AA fs cl∧Mem.le I J)∧(Qu.slice 2).rel J [e.v] es∧IJ N es∧i≤pos∧pos≤i+50∧Sat W wx (sep (bM B va (pos:Int) day (.slice fa N fc)) (sep (kn J) (sep (blk q (.cells (dV N o p2 q0 s t e).cells.toArray 36 (0,0))) fr)))))
        case first=>
         as_aux_lemma=>
          go_wp2_with fail;go_loopw [8] (fun iv wr=>∃(x n c pos:Nat) (o p2 q0:Int) (s t:Sv) (a:Option Addr) (fs:List Fm) (cl:List Cl) (es:List Ea) (vs:List Value) (J:Mem),iv=.int .i64 x∧x≤2∧n≤x∧Hid (((o=0∨o=1)∧(p2=1∨p2=2)∧(q0=-1∨fH N q0)∧(rF.slice 4).rel J [s.v] fs∧(lM.slice 5).rel J [t.v] cl∧AA fs cl∧Mem.le I J)∧n=es.length∧(Qu.rows 2).rel J vs es∧IJ N es∧i≤pos∧pos≤i9+4*x∧Sat W wr (sep (aT 93 2 a n c vs) (sep (bM B va (pos:Int) day (.slice fa N fc)) (sep (kn J) (sep (blk q (.cells (dV N o p2 q0 s t ⟨a,n,c⟩).cells.toArray 36 (0,0))) fr)))))) (fun iv _=>3-(intOf iv).toNat)
          case atStart=>
           obtain⟨h1,h2,h3,h4,h5,h6,h7,h8,h9,h10⟩:=lS.out;exact⟨0,0,0,agm,o0,p0,q0,s,t,none,fs,cl,[],[],J0,rfl,by omega,Nat.le_refl _,ah ⟨⟨h1,h2,h3,h4,h5,h6,h7⟩,rfl,⟨[],rfl,trivial⟩,⟨Nat.zero_le _,(fun e he=>by cases he),List.Pairwise.nil⟩,h8,by have:=HI9.out;omega,h10.fV 93 2⟩⟩
          case round=>
           clear lS;obtain⟨x,n,c,pos,o,p2,q0,s,t,a,fs,cl,es,vs,J,rfl,hx2,hnx,HL⟩:=hrel;by_cases hN0:N=0
           ·have afv:¬(0:Int)<(N:Int):=by omega
            by_cases hlt:x<2
            ·have hltz:(x:Int)<2:=by omega
             have ajz:=hx2;clear hlt hN0;go_wp2;go_meet;case rel=>
              obtain⟨hg,hn,hrows,hge,hp1,hp2,hS⟩:=HL.out;have hsw:=hS.fQ;obtain⟨J',hle',hJ',h9⟩:=(show Sat W wr (sep (U0 a vs) (sep (kn J) (sep (bM B va (pos:Int) day (.slice fa N fc)) (sep (blk q (.cells (dV N o p2 q0 s t ⟨a,n,c⟩).cells.toArray 36 (0,0))) fr)))) from by
               have h9:=hS.eF;simpa only[aA,au,aj] using h9).learn
              exact⟨o,p2,q0,s,t,⟨a,n,c⟩,fs,cl,es,J',pos,ah ⟨⟨hg.1,hg.2.1,hg.2.2.1,(rF.slice 4).mono hle' hg.2.2.2.1,(lM.slice 5).mono hle' hg.2.2.2.2.1,hg.2.2.2.2.2.1,eG hg.2.2.2.2.2.2 hle'⟩,⟨a,c,vs,by rw[←hn];rfl,by rw[←hn];exact hsw,hJ',(Qu.rows 2).mono hle' hrows⟩,hge,hp1,by have:=HI9.out;omega,h9.p1⟩⟩
            ·have hltz:¬(x:Int)<2:=by omega
             clear hlt hN0;go_wp2;go_meet;case rel=>
              obtain⟨hg,hn,hrows,hge,hp1,hp2,hS⟩:=HL.out;have hsw:=hS.fQ;obtain⟨J',hle',hJ',h9⟩:=(show Sat W wr (sep (U0 a vs) (sep (kn J) (sep (bM B va (pos:Int) day (.slice fa N fc)) (sep (blk q (.cells (dV N o p2 q0 s t ⟨a,n,c⟩).cells.toArray 36 (0,0))) fr)))) from by
               have h9:=hS.eF;simpa only[aA,au,aj] using h9).learn
              exact⟨o,p2,q0,s,t,⟨a,n,c⟩,fs,cl,es,J',pos,ah ⟨⟨hg.1,hg.2.1,hg.2.2.1,(rF.slice 4).mono hle' hg.2.2.2.1,(lM.slice 5).mono hle' hg.2.2.2.2.1,hg.2.2.2.2.2.1,eG hg.2.2.2.2.2.2 hle'⟩,⟨a,c,vs,by rw[←hn];rfl,by rw[←hn];exact hsw,hJ',(Qu.rows 2).mono hle' hrows⟩,hge,hp1,by have:=HI9.out;omega,h9.p1⟩⟩
           ·by_cases hlt:x<2
            ·have hltz:(x:Int)<2:=by omega
             have afx:(0:Int)<(N:Int):=by omega
             have hC:=HL.out.2.2.2.2.2.2;rw[KE.out] at hC;have hC2:Sat W wr (sep (aT 36 19 fa N fc (bY zs)) (sep (bM B va (pos:Int) day (.slice fa N fc)) (sep (kn J) (sep (aT 93 2 a n c vs) (sep (blk q (.cells (dV N o p2 q0 s t ⟨a,n,c⟩).cells.toArray 36 (0,0))) (sep (blk R (.cells iW 36 (0,0))) A)))))):=by
              have h9:=hC;simpa only[aA,au,aj] using h9
             obtain⟨g,rfl⟩:∃g,fa=some ⟨g,0,none⟩:=by
              rcases hC2.iD with ⟨-,h0,-⟩|⟨g,cur,rfl,-⟩
              ·omega
              ·exact⟨g,rfl⟩
             have hS0:wr.drew.cell? ⟨B,3,none⟩=some (.slice (some ⟨g,0,none⟩) N fc):=(show Sat W wr.drew (sep (blk B (.cells #[va,.int .i64 (pos:Int),.int .i64 day,(.slice (some ⟨g,0,none⟩) N fc)] 86 (0,0))) (sep (aT 36 19 (some ⟨g,0,none⟩) N fc (bY zs)) (sep (kn J) (sep (aT 93 2 a n c vs) (sep (blk q (.cells (dV N o p2 q0 s t ⟨a,n,c⟩).cells.toArray 36 (0,0))) (sep (blk R (.cells iW 36 (0,0))) A)))))) from hC2.p1.drew).cell 3;have YG:Hid (Sat W wr.drew (sep (sep (bM B va (pos:Int) day (.slice (some ⟨g,0,none⟩) N fc)) (sep (kn J) (aT 36 19 (some ⟨g,0,none⟩) N fc (bY zs)))) (sep (aT 93 2 a n c vs) (sep (blk q (.cells (dV N o p2 q0 s t ⟨a,n,c⟩).cells.toArray 36 (0,0))) (sep (blk R (.cells iW 36 (0,0))) A))))):=ah (by
              have h9:=hC2.drew;simpa only[aA,au,aj] using h9)
             have rW:pos<1000000:=by have:=HL.out.2.2.2.2.2.1;have:=HI.out;have:=HI9.out;omega
             have iL:=HL.out.1.2.2.2.2.2.2;have HX:=ah (aH hx2 (aH hnx hlt));clear hC hC2 hN0 hlt;go_upto_region 21 with fail;have hb6:=bF l pos N (by omega);obtain⟨r0,hr0⟩:=aC (dH l pos N);rw[←hr0] at hb6;obtain⟨r,rfl⟩:∃z:Nat,r0=(z:Int):=⟨r0.toNat,by omega⟩
             have hrN:r<N:=by omega
             have hrz:(r:Int)<(N:Int):=by omega
             have hrl:r<zs.length:=by have:=X6.out;omega
             obtain⟨zr,hzr⟩:=aC (zs[r]);have UU:Hid (tq I N zr∧zs[r]?=some zr):=ah ⟨by rw[hzr];exact KT.out _ (List.getElem_mem hrl),by rw[hzr];exact iM hrl⟩;have HC6:Hid (∀(w0:World) (A0:aB),Sat W w0 (sep (sep (bM B va (pos:Int) day (.slice (some ⟨g,0,none⟩) N fc)) (sep (kn J) (aT 36 19 (some ⟨g,0,none⟩) N fc (bY zs)))) A0)→Calls Tryz.prog 57 #[.pointer (some ⟨B,0,none⟩),.int .i64 N] w0 fun e w'=>∃v,e=.returned v∧Sat W w' (sep (sep (fact (v=.int .i64 (r:Int))) (sep (bM B va ((pos+1:Nat):Int) day (.slice (some ⟨g,0,none⟩) N fc)) (sep (kn J) (aT 36 19 (some ⟨g,0,none⟩) N fc (bY zs))))) A0)):=ah (by
              intro w0 A0 h0;have abw:pos<1000000:=rW;refine (aS va l pos N (by omega) (by omega) abw (HV.out.mono iL) (show Sat W w0 (sep (bM B va (pos:Int) day (.slice (some ⟨g,0,none⟩) N fc)) (sep (kn J) (sep (aT 36 19 (some ⟨g,0,none⟩) N fc (bY zs)) A0))) from by rw[aj,aj] at h0;exact h0)).mono ?_;rintro e w' ⟨rfl,h3⟩;refine⟨_,rfl,?_⟩;rw[aj];refine Sat.fact.2 ⟨by rw[hr0],?_⟩;rw[aj,aj];exact h3)
             clear hr0 hb6 hzr;refine fE rfl (fun w'=>w'.cell? ⟨B,3,none⟩=some (.slice (some ⟨g,0,none⟩) N fc)) [.one 0 .p,.one 1 .p,.one 2 .p,.one 3 .s,.one 4 .p,.one 5 .p,.grp true [(6,[7]),(8,[]),(9,[])],.one 10 (.e false)] (by kernel_rfl) ?_;refine mG ?_;refine sZ (W:=W) (A:=(sep (aT 93 2 a n c vs) (sep (blk q (.cells (dV N o p2 q0 s t ⟨a,n,c⟩).cells.toArray 36 (0,0))) (sep (blk R (.cells iW 36 (0,0))) A)))) [⟨[(6,[7]),(8,[])],X7 (sep (bM B va (pos:Int) day (.slice (some ⟨g,0,none⟩) N fc)) (sep (kn J) (aT 36 19 (some ⟨g,0,none⟩) N fc (bY zs)))) (sep (bM B va ((pos+1:Nat):Int) day (.slice (some ⟨g,0,none⟩) N fc)) (sep (kn J) (aT 36 19 (some ⟨g,0,none⟩) N fc (bY zs)))) (sep (bM B va ((pos+1:Nat):Int) day (.slice (some ⟨g,0,none⟩) N fc)) (sep (kn J) (aT 36 19 (some ⟨g,0,none⟩) N fc (bY zs)))) (.int .i64 r) (.pointer (some ⟨g,r*19,none⟩)) (.agg zr.cells.toArray)⟩,⟨[(9,[])],tailA emp Ij (fun g=>blk g (.cells iW 36 (0,0))) (fun _=>[])⟩]
              (fun _=>⟨_,List.mem_cons_self,aas (fun w X h=>(show Sat W w (sep (blk B (.cells #[va,.int .i64 (pos:Int),.int .i64 day,.slice (some ⟨g,0,none⟩) N fc] 86 (0,0))) (sep (sep (kn J) (aT 36 19 (some ⟨g,0,none⟩) N fc (bY zs))) X)) from by rw[aj] at h;exact h).cell 3) (fun w X h=>(show Sat W w (sep (blk B (.cells #[va,.int .i64 (((pos+1:Nat):Int):Int),.int .i64 day,.slice (some ⟨g,0,none⟩) N fc] 86 (0,0))) (sep (sep (kn J) (aT 36 19 (some ⟨g,0,none⟩) N fc (bY zs))) X)) from by rw[aj] at h;exact h).cell 3) (fun w X h=>(show Sat W w (sep (blk B (.cells #[va,.int .i64 (((pos+1:Nat):Int):Int),.int .i64 day,.slice (some ⟨g,0,none⟩) N fc] 86 (0,0))) (sep (sep (kn J) (aT 36 19 (some ⟨g,0,none⟩) N fc (bY zs))) X)) from by rw[aj] at h;exact h).cell 3)⟩) (by kernel_rfl) ?_ ?_ ?_
             ·intro t ht
              simp only[List.mem_cons,List.not_mem_nil,or_false] at ht;rcases ht with rfl|rfl
              ·refine Ht (di:=some 101) (dk:=some 102) rfl rfl rfl (by intro cs b h;cases h) rfl (by intro cs b h;cases h) (by kernel_rfl) (yG rfl 57 #[.pointer (some ⟨B,0,none⟩),.int .i64 N] (fun w'=>?_) HC6.out) (by kernel_rfl) ?_ (Ry rfl (fun w' A' hw'=>⟨w',?_,hw'⟩)) (fun _ _=>rfl)
               ·(go_simp;try rfl)
               ·refine⟨⟨_,rfl,fun w'=>?_⟩,trivial⟩
                simp only[Act.put,lsA,lsB,lq]
                (go_simp;try rfl)
               ·have hld:=sV (JC (show Sat W w' (sep (aT 36 19 (some ⟨g,0,none⟩) N fc (bY zs)) (sep (bM B va ((pos+1:Nat):Int) day (.slice (some ⟨g,0,none⟩) N fc)) (sep (kn J) A'))) from by have h9:=hw';simpa only[aA,au,aj] using h9) r hrl)
                rw[show zs[r]=zr from by have:=UU.out.2;rw[iM hrl] at this;exact Option.some.inj this] at hld;simp only[Act.put,lsA,lsB,lq]
                (go_simp;try rfl)
              ·refine xI rfl (by intro cs b h;cases h) (zW rfl (fun w'=>?_)) rfl ?_
               ·(go_simp;try rfl)
               ·intro _ _ _;trivial
             ·show Sat W _ (sep emp (sep (sep (bM B va (pos:Int) day (.slice (some ⟨g,0,none⟩) N fc)) (sep (kn J) (aT 36 19 (some ⟨g,0,none⟩) N fc (bY zs)))) (sep (aT 93 2 a n c vs) (sep (blk q (.cells (dV N o p2 q0 s t ⟨a,n,c⟩).cells.toArray 36 (0,0))) (sep (blk R (.cells iW 36 (0,0))) A)))))
              rw[jc];exact YG.out
             ·intro dn1 h1 dn2 h2 w7' h7
              obtain⟨rfl,h8⟩:=LJ h1 h7.p1;obtain⟨v10,pP,rfl,hg,h9⟩:=yt h2 (fun _=>rfl) h8.p1;unfold Ij at hg;subst hg;have h10:Sat W w7' (sep (blk pP (.cells iW 36 (0,0))) (sep (sep (bM B va ((pos+1:Nat):Int) day (.slice (some ⟨g,0,none⟩) N fc)) (sep (kn J) (aT 36 19 (some ⟨g,0,none⟩) N fc (bY zs)))) (sep (aT 93 2 a n c vs) (sep (blk q (.cells (dV N o p2 q0 s t ⟨a,n,c⟩).cells.toArray 36 (0,0))) (sep (blk R (.cells iW 36 (0,0))) A))))):=h9;have hst:=cZ h10.aO rfl zr;have h11:=h10.setRow zr.cells.toArray;obtain⟨Yt,WJ⟩:=aC (w7'.setRow pP zr.cells.toArray);rw[←WJ] at hst h11
              change ou _ _ _ _ _ _ ((((Act.put _ (some 101) (.int .i64 r)).put (some 102) (.pointer (some ⟨g,r*19,none⟩))).put (some 103) (.agg zr.cells.toArray)).put (some 9) (.pointer (some ⟨pP,0,none⟩))) _
              simp only[Act.put,lsA,lsB,lq];have XQ:=ah h11;clear h1 h2 h7 h8 h9 h10 h11 WJ YG hS0 HC6
              (refine J_e rfl rfl (fun K hK=>?_);go_simp)
              refine dY ?_;clear hK K;refine wM ?_;clear hst;have wG:Sat W Yt (sep (blk pP (.cells zr.cells.toArray 36 (0,0))) (sep (aT 93 2 a n c vs) (sep (blk q (.cells (dV N o p2 q0 s t ⟨a,n,c⟩).cells.toArray 36 (0,0))) (sep (bM B va ((pos+1:Nat):Int) day (.slice (some ⟨g,0,none⟩) N fc)) (sep (kn J) fr))))):=by
               rw[KE.out];have h9:=XQ.out;simpa only[aA,au,aj] using h9
              have H14:=ah wG;clear wG XQ;go_upto_region 22 with fail;go_cut [126] from 104 to 125 (fun bv wx=>∃bb:Bool,bv=.bool bb∧(bb=true→(∀e∈es,e.file≠zr.f)∧n≤1)∧Sat W wx (sep (blk pP (.cells zr.cells.toArray 36 (0,0))) (sep (aT 93 2 a n c vs) (sep (blk q (.cells (dV N o p2 q0 s t ⟨a,n,c⟩).cells.toArray 36 (0,0))) (sep (bM B va ((pos+1+1:Nat):Int) day (.slice (some ⟨g,0,none⟩) N fc)) (sep (kn J) fr))))))
              case first=>
               as_aux_lemma=>
                have hd:=H14.out.drew;have YB:=ah (aS va l (pos+1) 2 (by omega) (by omega) (by have:=HL.out.2.2.2.2.2.1;have:=HI.out;have:=HI9.out;have:=HX.out.1;omega) (HV.out.mono iL) (show Sat W Yt.drew (sep (bM B va ((pos+1:Nat):Int) day (.slice (some ⟨g,0,none⟩) N fc)) (sep (kn J) (sep (blk pP (.cells zr.cells.toArray 36 (0,0))) (sep (aT 93 2 a n c vs) (sep (blk q (.cells (dV N o p2 q0 s t ⟨a,n,c⟩).cells.toArray 36 (0,0))) fr))))) from dI hd));obtain⟨z8,hz8⟩:=aC (dH l (pos+1) 2);rw[←hz8] at YB;clear hz8 hd H14;obtain⟨t8,ht8⟩:∃b,(z8==0)=b:=⟨_,rfl⟩
                have hall:∀w':World,Sat W w' (sep (bM B va ((pos+1+1:Nat):Int) day (.slice (some ⟨g,0,none⟩) N fc)) (sep (kn J) (sep (blk pP (.cells zr.cells.toArray 36 (0,0))) (sep (aT 93 2 a n c vs) (sep (blk q (.cells (dV N o p2 q0 s t ⟨a,n,c⟩).cells.toArray 36 (0,0))) fr)))))→Sat W w' (sep (blk pP (.cells zr.cells.toArray 36 (0,0))) (sep (aT 93 2 a n c vs) (sep (blk q (.cells (dV N o p2 q0 s t ⟨a,n,c⟩).cells.toArray 36 (0,0))) (sep (bM B va ((pos+1+1:Nat):Int) day (.slice (some ⟨g,0,none⟩) N fc)) (sep (kn J) fr))))):=fun w' h=>by
                 have h9:=h;simpa only[aA,au,aj] using h9
                have zD:=ah hall;clear hall;have hcase:t8=false∨(t8=true∧x=0)∨(t8=true∧x=1∧n=0)∨(t8=true∧x=1∧n=1):=by
                 cases t8
                 ·exact .inl rfl
                 ·have h0:x=0∨(x=1∧n=0)∨(x=1∧n=1):=by have:=HX.out;omega
                  rcases h0 with h|h|h
                  ·exact .inr (.inl ⟨rfl,h⟩)
                  ·exact .inr (.inr (.inl ⟨rfl,h⟩))
                  ·exact .inr (.inr (.inr ⟨rfl,h⟩))
                rcases hcase with rfl|⟨rfl,rfl⟩|⟨rfl,rfl,rfl⟩|⟨rfl,rfl,rfl⟩
                ·refine aG rfl (fun _=>True) [(0,.p),(1,.e false),(2,.p),(3,.p),(4,.p),(5,.p),(6,.p),(7,.p),(8,.t),(9,.p),(10,.p),(11,.p),(12,.p),(13,.p),(14,.t),(15,.p),(16,.p),(17,.t),(18,.p),(19,.t),(20,.p),(21,.p),(22,.p)] (by kernel_rfl) ?_
                 have hS0:True:=trivial;refine bG ?_
                 (refine jJ rfl rfl (fun K hK=>?_);go_simp)
                 refine YB.out.mono ?_;rintro e w17 ⟨rfl,h17⟩;refine dY ?_;clear hK K;refine bG ?_;refine dJ ?_;go_wp2;go_meet;case rel=>exact⟨false,rfl,(fun h=>by cases h),zD.out _ h17⟩
                ·refine aG rfl (fun _=>True) [(0,.p),(1,.e false),(2,.p),(3,.p),(4,.p),(5,.p),(6,.p),(7,.p),(8,.t),(9,.p),(10,.p),(11,.p),(12,.p),(13,.p),(14,.t),(15,.p),(16,.p),(17,.t),(18,.p),(19,.t),(20,.p),(21,.p),(22,.p)] (by kernel_rfl) ?_
                 have hS0:True:=trivial;refine bG ?_
                 (refine jJ rfl rfl (fun K hK=>?_);go_simp)
                 refine YB.out.mono ?_;rintro e w17 ⟨rfl,h17⟩;refine dY ?_;clear hK K;refine bG ?_;refine dJ ?_;go_wp2;go_meet;case rel=>exact⟨true,rfl,(fun _=>⟨(by have h0:es=[]:=Ju (by have:=HL.out.2.1;have:=HX.out.2.1;omega);rw[h0];intro e he;cases he),by have:=HX.out.2.1;omega⟩),zD.out _ h17⟩
                ·refine aG rfl (fun _=>True) [(0,.p),(1,.e false),(2,.p),(3,.p),(4,.p),(5,.p),(6,.p),(7,.p),(8,.t),(9,.p),(10,.p),(11,.p),(12,.p),(13,.p),(14,.t),(15,.p),(16,.p),(17,.t),(18,.p),(19,.t),(20,.p),(21,.p),(22,.p)] (by kernel_rfl) ?_
                 have hS0:True:=trivial;refine bG ?_
                 (refine jJ rfl rfl (fun K hK=>?_);go_simp)
                 refine YB.out.mono ?_;rintro e w17 ⟨rfl,h17⟩;have m14:w17.cell? ⟨q,14,none⟩=some (.slice a 0 c):=(ay (zD.out _ h17).p2 14 _ rfl).1;refine dY ?_;clear hK K;refine bG ?_;refine dJ ?_;go_wp2;go_meet;case rel=>exact⟨true,rfl,(fun _=>⟨(by have h0:es=[]:=Ju (by have:=HL.out.2.1;omega);rw[h0];intro e he;cases he),by omega⟩),zD.out _ h17⟩
                ·obtain⟨e0,rfl⟩:∃e0,es=[e0]:=List.length_eq_one_iff.1 HL.out.2.1.symm
                 have hvs:vs=[.int .i64 e0.file,.int .i64 e0.day]:=by
                  obtain⟨css,e1,h2⟩:=HL.out.2.2.1
                  match css,h2 with
                  | [c1],h2=>
                   have h3:c1=[.int .i64 e0.file,.int .i64 e0.day]:=h2.1.1;rw[e1,h3];rfl
                 obtain⟨u0,hu0⟩:=aC (e0.file);obtain⟨v0,hv0⟩:=aC (zr.f);obtain⟨t9,ht9⟩:∃b,(u0==v0)=b:=⟨_,rfl⟩
                 have ajw:(u0 !=v0)=!t9:=by rw[←ht9];rfl
                 have HU:=ah (aH hu0 (aH hv0 hvs));clear hu0 hv0 hvs;refine aG rfl (fun _=>True) [(0,.p),(1,.e false),(2,.p),(3,.p),(4,.p),(5,.p),(6,.p),(7,.p),(8,.t),(9,.p),(10,.p),(11,.p),(12,.p),(13,.p),(14,.t),(15,.p),(16,.p),(17,.t),(18,.p),(19,.t),(20,.p),(21,.p),(22,.p)] (by kernel_rfl) ?_;have hS0:True:=trivial;refine bG ?_
                 (refine jJ rfl rfl (fun K hK=>?_);go_simp)
                 refine YB.out.mono ?_;rintro e w17 ⟨rfl,h17⟩;obtain⟨ga,rfl⟩:∃ga,a=some ⟨ga,0,none⟩:=by
                  rcases (zD.out _ h17).p1.iD with ⟨-,h0,-⟩|⟨ga,cur,rfl,-⟩
                  ·exact absurd h0 (by omega)
                  ·exact⟨ga,rfl⟩
                 have m14:w17.cell? ⟨q,14,none⟩=some (.slice (some ⟨ga,0,none⟩) 1 c):=(ay (zD.out _ h17).p2 14 _ rfl).1;have mP:w17.cell? ⟨pP,3,none⟩=some (.int .i64 v0):=by rw[HU.out.2.1];exact (ay (zD.out _ h17) 3 _ rfl).1
                 have me:w17.cell? ⟨ga,0,none⟩=some (.int .i64 u0):=by
                  have h9:=(zD.out _ h17).p1.eF.SE 0 (.int .i64 u0) (by rw[HU.out.2.2,HU.out.1];rfl);exact h9
                 refine dY ?_;clear hK K;refine bG ?_;refine dJ ?_;go_wp2;go_meet;case rel=>
                  cases t9 with
                  | true=>exact⟨false,rfl,(fun h=>by cases h),zD.out _ h17⟩
                  | false=>exact⟨true,rfl,(fun _=>⟨by intro e he;rw[vW he,←HU.out.1,←HU.out.2.1];simpa using ht9,Nat.le_refl _⟩),zD.out _ h17⟩
              case rest=>
               as_aux_lemma=>
                obtain⟨bb,rfl,hbb,hS5⟩:=hcut;have H5:=ah (aH hbb hS5);clear hbb hS5 H14;cases bb with
                | false=>
                 go_wp2;go_roundw;case rel=>
                  obtain⟨hg,hn,hrows,hge,hp1,hp2,hS⟩:=HL.out;exact⟨x+1,n,c,pos+1+1,o,p2,q0,s,t,a,fs,cl,es,vs,J,by go_num,by have:=HX.out;omega,by have:=HX.out;omega,ah ⟨hg,hn,hrows,hge,by omega,by omega,by have h9:=H5.out.2.forget;simpa only[aA,au,aj] using h9⟩⟩
                 case measure=>simp[intOf];have:=HX.out;omega
                | true=>
                 have k1:wc.cell? ⟨pP,1,none⟩=some (.int .i64 zr.d):=(ay H5.out.2 1 _ rfl).1;obtain⟨dz,hdz⟩:=aC (zr.d);have afe:35600≤dz:=by rw[hdz];exact UU.out.1.2.2.2.1
                 have aff:dz≤38000:=by rw[hdz];exact UU.out.1.2.2.2.2.1
                 rw[←hdz] at k1;have HN9:=ah (aS va l (pos+1+1) 9 (by omega) (by omega) (by have:=HL.out.2.2.2.2.2.1;have:=HI.out;have:=HI9.out;have:=HX.out.1;omega) (HV.out.mono iL) (show Sat W wc (sep (bM B va ((pos+1+1:Nat):Int) day (.slice (some ⟨g,0,none⟩) N fc)) (sep (kn J) (sep (blk pP (.cells zr.cells.toArray 36 (0,0))) (sep (aT 93 2 a n c vs) (sep (blk q (.cells (dV N o p2 q0 s t ⟨a,n,c⟩).cells.toArray 36 (0,0))) fr))))) from dI H5.out.2));obtain⟨z9,hz9⟩:=aC (dH l (pos+1+1) 9);rw[←hz9] at HN9;obtain⟨p3,hp3⟩:=aC (pos+1+1+1);rw[←hp3] at HN9;have HP3:=ah hp3;clear hp3;clear hz9 hdz;obtain⟨t9,ht9⟩:∃b,(z9==0)=b:=⟨_,rfl⟩
                 go_wp2_with fail;refine HN9.out.mono ?_;rintro e w19 ⟨rfl,h17⟩;have h18:Sat W w19 (sep (blk pP (.cells zr.cells.toArray 36 (0,0))) (sep (aT 93 2 a n c vs) (sep (blk q (.cells (dV N o p2 q0 s t ⟨a,n,c⟩).cells.toArray 36 (0,0))) (sep (bM B va (p3:Int) day (.slice (some ⟨g,0,none⟩) N fc)) (sep (kn J) fr))))):=by
                  have h9:=h17;simpa only[aA,au,aj] using h9
                 have IL:=ah h18;clear h17 h18 HN9 k1;go_upto_if 131 with fail;go_cut [10] from 129 to 133 (fun dv wx=>∃dd:Int,dv=.int .i64 dd∧35600≤dd∧dd≤38001∧Sat W wx (sep (blk pP (.cells zr.cells.toArray 36 (0,0))) (sep (aT 93 2 a n c vs) (sep (blk q (.cells (dV N o p2 q0 s t ⟨a,n,c⟩).cells.toArray 36 (0,0))) (sep (bM B va (p3:Int) day (.slice (some ⟨g,0,none⟩) N fc)) (sep (kn J) fr))))))
                 case first=>
                  cases t9 with
                  | true=>
                   go_wp2;go_meet;case rel=>exact⟨dz+1,rfl,by omega,by omega,IL.out⟩
                  | false=>
                   go_wp2;go_meet;case rel=>exact⟨dz,rfl,by omega,by omega,IL.out⟩
                 case rest=>
                  obtain⟨dd,rfl,hd1,hd2,hS6⟩:=hcut;have Z7:=ah (aH hd1 hd2);have k1:wc.cell? ⟨pP,3,none⟩=some (.int .i64 zr.f):=(ay hS6 3 _ rfl).1;have k2:wc.cell? ⟨q,14,none⟩=some (.slice a n c):=(ay hS6.p2 14 _ rfl).1;have h7:Sat W (wc.alloc (.cells #[.int .i64 zr.f,.int .i64 dd] 93)) (sep (aT 93 2 a n c vs) (sep (blk pP (.cells zr.cells.toArray 36 (0,0))) (sep (blk q (.cells (dV N o p2 q0 s t ⟨a,n,c⟩).cells.toArray 36 (0,0))) (sep (bM B va (p3:Int) day (.slice (some ⟨g,0,none⟩) N fc)) (sep (kn J) fr))))):=by
                   have h9:=hS6.iy (.cells #[.int .i64 zr.f,.int .i64 dd] 93);simpa only[aA,au,aj] using h9
                  have H7:=ah h7;have Dj:=ah (fun (w:World)=>jm w [.int .i64 zr.f,.int .i64 dd] 93);clear hS6 h7 hd1 hd2 IL ht9 afe aff;go_wp2_with (at_builtin;go_loud (refine aK rfl _ _ 31 rfl 93 2 16 _ Tryz.underlying31 MZ rfl rfl H7.out rfl [.int .i64 zr.f,.int .i64 dd] rfl (by simp) (by intro b' hb;cases hb;exact Dj.out _) (by simp[Value.oneCell']) (by have:=HX.out;omega) (by unfold maxLen;have:=HX.out;omega) ?_))
                  intro a2 c2 w21 h8;obtain⟨j1a,j1b⟩:=ay h8.p2 14 (.slice a n c) rfl;obtain⟨j2a,j2b⟩:=ay h8.p2 5 (.int .i64 p2) rfl;have k3:w21.cell? ⟨pP,5,none⟩=some (.int .i64 zr.p):=(ay h8.p1 5 _ rfl).1;have hne:¬q=pP:=fun e=>h8.p2.p2.Xa e.symm
                  have H8:=ah h8;clear h8 H7 Dj k1 k2;go_wp2;go_roundw;case rel=>
                   obtain⟨hg,hn,hrows,hge,hp1,hp2,-⟩:=HL.out;have h9:=(H8.out.p2.setCell 14 (.slice a2 (n+1) c2)).setCell 5 (.int .i64 zr.p);have e9:((dV N o p2 q0 s t ⟨a,n,c⟩).cells.toArray.setIfInBounds 14 (.slice a2 (n+1) c2)).setIfInBounds 5 (.int .i64 zr.p)=(dV N o zr.p q0 s t ⟨a2,n+1,c2⟩).cells.toArray:=by simp[dV,Ac.cells]
                   rw[e9] at h9;refine⟨x+1,n+1,c2,p3,o,zr.p,q0,s,t,a2,fs,cl,es++[⟨zr.f,dd⟩],vs++[.int .i64 zr.f,.int .i64 dd],J,by go_num,by have:=HX.out;omega,by have:=HX.out;omega,ah ⟨⟨hg.1,UU.out.1.2.2.1,hg.2.2⟩,by rw[dM,←hn];rfl,nZ hrows (show Qu.rel J [.int .i64 zr.f,.int .i64 dd] ⟨zr.f,dd⟩ from rfl) rfl,?_,by have:=HP3.out;omega,by have:=HP3.out;omega,?_⟩⟩
                   ·have hb:=H5.out.1 (by first|trivial|rfl)
                    refine⟨by rw[dM,←hn];have:=hb.2;show n+1≤2;omega,?_,?_⟩
                    ·intro e he
                     rcases List.mem_append.1 he with h|h
                     ·exact hge.2.1 e h
                     ·rw[vW h];exact⟨UU.out.1.1,Z7.out.1,Z7.out.2⟩
                    ·refine List.pairwise_append.2 ⟨hge.2.2,List.pairwise_singleton _ _,?_⟩
                     intro e he e' he';rw[vW he'];exact hb.1 e he
                   ·have h10:=h9.p2.forget
                    have h9:=h10;simpa only[aA,au,aj] using h9
                  case measure=>simp[intOf];have:=HX.out;omega
            ·have hltz:¬(x:Int)<2:=by omega
             clear hlt hN0;go_wp2;go_meet;case rel=>
              obtain⟨hg,hn,hrows,hge,hp1,hp2,hS⟩:=HL.out;have hsw:=hS.fQ;obtain⟨J',hle',hJ',h9⟩:=(show Sat W wr (sep (U0 a vs) (sep (kn J) (sep (bM B va (pos:Int) day (.slice fa N fc)) (sep (blk q (.cells (dV N o p2 q0 s t ⟨a,n,c⟩).cells.toArray 36 (0,0))) fr)))) from by
               have h9:=hS.eF;simpa only[aA,au,aj] using h9).learn
              exact⟨o,p2,q0,s,t,⟨a,n,c⟩,fs,cl,es,J',pos,ah ⟨⟨hg.1,hg.2.1,hg.2.2.1,(rF.slice 4).mono hle' hg.2.2.2.1,(lM.slice 5).mono hle' hg.2.2.2.2.1,hg.2.2.2.2.2.1,eG hg.2.2.2.2.2.2 hle'⟩,⟨a,c,vs,by rw[←hn];rfl,by rw[←hn];exact hsw,hJ',(Qu.rows 2).mono hle' hrows⟩,hge,hp1,by have:=HI9.out;omega,h9.p1⟩⟩
        case rest=>
         as_aux_lemma=>
          obtain⟨o,p2,q1,s',t',e,fs',cl',es,J,pos,HL⟩:=hcut;clear lS;have hF:=HL.out.2.2.2.2.2;rw[KE.out] at hF;have hq:Sat W wc (sep (blk q (.cells (dV N o p2 q1 s' t' e).cells.toArray 36 (0,0))) (sep (bM B va (pos:Int) day (.slice fa N fc)) (sep (kn J) (sep (aT 36 19 fa N fc (bY zs)) (sep (blk R (.cells iW 36 (0,0))) A))))):=by
           have h9:=hF;simpa only[aA,au,aj] using h9
          have hR2:Sat W wc (sep (blk R (.cells iW 36 (0,0))) (sep (bM B va (pos:Int) day (.slice fa N fc)) (sep (aT 36 19 fa N fc (bY zs)) (sep (kn J) A)))):=by
           have h9:=hq.forget;simpa only[aA,au,aj] using h9
          obtain⟨z,hz⟩:=aC (dV N o p2 q1 s' t' e);rw[←hz] at hq;have hld:Sem.run Tryz.prog (mg (.pointer (some ⟨q,0,none⟩))) wc=.ok (.agg z.cells.toArray) wc:=gB fun i v hv=>(ay hq i v hv).1
          have hst:=cZ hR2.aO rfl z;have Zj:=hR2.setRow z.cells.toArray;obtain⟨w20,WL⟩:=aC (wc.setRow R z.cells.toArray);rw[←WL] at hst Zj;have hres:=iw Zj;have H20:=ah Zj;have HZ:=ah hz;clear hF hq hR2 Zj hz WL;go_wp2;exact bodyPost_ret (v:=.agg z.cells.toArray) (by simp[results,Tryz.results58,go_sem,↓aV,hres]) rfl ⟨z,_,J,pos,rfl,by
           rw[HZ.out];exact U3 N o p2 q1 HL.out.1.2.2.2.1 HL.out.1.2.2.2.2.1 HL.out.2.1,⟨o,p2,q1,fs',cl',es,rfl,HL.out.1.1,HL.out.1.2.1,HL.out.1.2.2.1,HL.out.1.2.2.2.2.2.1,HL.out.2.2.1⟩,HL.out.1.2.2.2.2.2.2,HL.out.2.2.2.1,by have:=HL.out.2.2.2.2.1;omega,H20.out.forget⟩
end Go.Proofs.YthfmaclnccdcbaaGreatDoor

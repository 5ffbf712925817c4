/- Part of a proof. -/
import Derived.Test.YthfmaclnccdcbaaGreatDoorZFO33
namespace PA
open Go
def IK (l:List Cl):Prop:=∀(i:Nat) (h:i<l.length),dA l[i].body∧lW i l[i].refs
theorem IK.snoc {l:List Cl} {x:Cl} (h:IK l) (hb:dA x.body) (hr:lW l.length x.refs):IK (l++[x]):=by
 intro i hi;by_cases e:i<l.length
 ·rw[List.getElem_append_left e];exact h i e
 ·have e2:i=l.length:=by simp at hi;omega
  subst e2;simp only[List.getElem_append_right (Nat.le_refl _),Nat.sub_self,List.getElem_singleton];exact⟨hb,hr⟩
end PA
namespace Go.Proofs.YthfmaclnccdcbaaGreatDoor
open Go.RowKit PA
theorem vS:(Tryz.prog.info? 91).map (fun i=>(i.zero,i.size,i.bytes))=some (some (.agg #[.slice none 0 0,.int .i64 0,.int .i64 0,.slice none 0 0,.slice none 0 0]),5,88):=by kernel_rfl
def bsCl (n:Nat) (p:Array (Nat×Value)):Sem Value:=Instr.buildSlice 28 n p
theorem wQ (n:Nat) (p:Array (Nat×Value)):Instr.buildSlice 28 n p=bsCl n p:=rfl
theorem aan (w:World) (c0 c1 c2 c3 c4:Value):(bsCl 1 #[(0,.agg #[c0,c1,c2,c3,c4])]).run Tryz.prog w=.ok (.slice (some ⟨w.heap.size,0,none⟩) 1 1) (w.alloc (.cells #[c0,c1,c2,c3,c4] 91)):=by
 obtain⟨i,h1,h2,h3,h4⟩:=info_parts vS;exact run_buildSlice w 28 91 1 _ _ i _ Tryz.underlying28 h1 h2 (by rw[h3];omega) (by rw[h3];omega) (by rw[h3];kernel_rfl)
theorem JJ {I:Mem} {c:List Value} {f:Fm} (h:rF.rel I c f):∀u∈c,u.oneCell'=true:=by
 obtain⟨o,n,i,k⟩:=f;obtain⟨a,c',b,d,rfl,-,-⟩:=dW.1 h;intro u hu;simp only[List.mem_cons,List.not_mem_nil,or_false] at hu;rcases hu with rfl|rfl|rfl|rfl<;>rfl
attribute [local go_sem ↓] wQ
attribute [local go_sem] aan
set_option maxRecDepth 100000 in
set_option maxHeartbeats 8000000 in
theorem vI {W w:World} {A:aB} {I:Mem} {B:Nat} {day:Int} {fv:Value} (va:Value) (l:List Int) (i:Nat) (hi:i<900000) (hv:OM I va l) (h:Sat W w (sep (bM B va i day fv) (sep (kn I) A))):
 Calls Tryz.prog 111 #[.pointer (some ⟨B,0,none⟩)] w fun e w'=>∃cl a n c J i',e=.returned (.slice a n c)∧kR cl∧Mem.le I J∧(lM.slice 5).rel J [.slice a n c] cl∧i≤i'∧i'≤i+20∧Sat W w' (sep (bM B va (i':Int) day fv) (sep (kn J) A)):=by
 have HN:=ah (aS va l i 3 (by omega) (by omega) (by omega) hv h);have hb:=bF l i 3 (by omega);obtain⟨r0,hr0⟩:=aC (dH l i 3);rw[←hr0] at hb HN;obtain⟨r,rfl⟩:∃r:Nat,r0=(r:Int):=⟨r0.toNat,by omega⟩
 have hr:r<3:=by omega
 have hr3:(r:Int)<3:=by omega
 obtain⟨m,hm⟩:∃m:Nat,m=1+r:=⟨_,rfl⟩
 have hmz:1+(r:Int)=(m:Int):=by omega
 have hm3:(m:Int)≤3:=by omega
 have HM:Hid (1≤m∧m≤3):=ah (by omega);have HV:=ah hv;clear h hv hr0 hb hm hr;go_enter Tryz.func111,Tryz.ntmps111;go_wp2_with fail;refine HN.out.mono ?_;rintro e w1 ⟨rfl,h1⟩;have Ci:=ah h1;clear h1 HN;go_wp2_with fail;go_loopw [5,3] (fun iv ov wr=>∃(x:Nat) (a:Option Addr) (n c:Nat) (vs:List Value) (cls:List Cl) (J:Mem) (pos:Nat),iv=.int .i64 x∧ov=.slice a n c∧x≤m∧Hid (n=x∧cls.length=x∧Mem.le I J∧(lM.rows 5).rel J vs cls∧IK cls∧i≤pos∧pos≤i+1+4*x∧Sat W wr (sep (aT 91 5 a n c vs) (sep (bM B va (pos:Int) day fv) (sep (kn J) A))))) (fun iv _ _=>4-(intOf iv).toNat)
 case atStart=>
  exact⟨0,none,0,0,[],[],I,i+1,rfl,rfl,by omega,ah ⟨rfl,rfl,bW _,⟨[],rfl,trivial⟩,(fun i h=>absurd h (Nat.not_lt_zero _)),Nat.le_succ _,by omega,Ci.out.fV 91 5⟩⟩
 case round=>
  obtain⟨x,a,n,c,vs,cls,J,pos,rfl,rfl,hxm,HL⟩:=hrel;have adY:x≤3:=by have:=HM.out.2;omega
  by_cases hlt:x<m
  ·have hltz:(x:Int)<(m:Int):=by omega
   have hx2:x=0∨x=1∨x=2:=by have:=HM.out.2;omega
   have xw:Hid (Calls Tryz.prog 110 #[.pointer (some ⟨B,0,none⟩)] wr fun e w'=>∃(f:Fm) (fo fn:Int) (fi fk:Sv) (J':Mem),e=.returned (.agg #[.int .i64 fo,.int .i64 fn,.slice fi.a fi.n fi.c,.slice fk.a fk.n fk.c])∧dA f∧Mem.le J J'∧rF.rel J' [.int .i64 fo,.int .i64 fn,.slice fi.a fi.n fi.c,.slice fk.a fk.n fk.c] f∧Sat W w' (sep (bM B va ((pos+1:Nat):Int) day fv) (sep (kn J') (sep (aT 91 5 a n c vs) A)))):=
    ah (xH va l pos (by have:=HL.out.2.2.2.2.2.2.1;omega) (HV.out.mono HL.out.2.2.1) (show Sat W wr (sep (bM B va (pos:Int) day fv) (sep (kn J) (sep (aT 91 5 a n c vs) A))) from by
     have h9:=HL.out.2.2.2.2.2.2.2;simpa only[aA,au,aj] using h9))
   clear hlt hxm adY;rcases hx2 with rfl|rfl|rfl
   ·as_aux_lemma=>
    go_wp2_with fail;refine xw.out.mono ?_;rintro e w2 ⟨f,fo,fn,fi,fk,J2,rfl,hgf,hle2,RN,h2⟩;obtain⟨Q,hQ⟩:=aC (w2.heap.size);obtain⟨w3,hw3⟩:=aC (w2.alloc (.cells #[.slice none 0 0,.int .i64 fo,.int .i64 fn,.slice fi.a fi.n fi.c,.slice fk.a fk.n fk.c] 91));have h3:=h2.alloc (.cells #[.slice none 0 0,.int .i64 fo,.int .i64 fn,.slice fi.a fi.n fi.c,.slice fk.a fk.n fk.c] 91);rw[←hQ,←hw3] at h3;have HQ:=ah (aH hQ hw3);have HG:=ah (aH hgf (aH hle2 RN));have KG:=ah h3;clear h2 h3 hQ hw3 hgf hle2 RN xw;have HC:Hid (∃(ra:Option Addr) (rn rc:Nat) (refs:List Int) (J3:Mem) (pos2:Nat),Hid (ra=none∧rn=0∧rc=0)∧Hid (rn=refs.length∧lW 0 refs∧Mem.le J2 J3∧(sO.slice 1).rel J3 [.slice ra rn rc] refs∧pos≤pos2∧pos2≤pos+4∧Sat W w3 (sep (blk Q (.cells #[.slice ra rn rc,.int .i64 fo,.int .i64 fn,.slice fi.a fi.n fi.c,.slice fk.a fk.n fk.c] 91 (0,0))) (sep (bM B va (pos2:Int) day fv) (sep (kn J3) (sep (aT 91 5 a n c vs) A)))))):=ah ⟨none,0,0,[],J2,pos+1,ah ⟨rfl,rfl,rfl⟩,ah ⟨rfl,.inl rfl,bW _,nilI J2,by omega,by omega,KG.out⟩⟩;obtain⟨ra,rn,rc,refs,J3,pos2,HZ,HC⟩:=HC.out;go_upto_region 7 with fail;rw[←HQ.out.1,←HQ.out.2];go_upto_region 11 with fail;have HC2:=HC;obtain⟨hz1,hz2,hz3⟩:=HZ.out;subst hz1 hz2 hz3;have g0:(w3).cell? ⟨Q,0,none⟩=some (.slice none 0 0):=HC.out.2.2.2.2.2.2.cell 0;have g1:(w3).cell? ⟨Q,1,none⟩=some (.int .i64 fo):=HC.out.2.2.2.2.2.2.cell 1;have g2:(w3).cell? ⟨Q,2,none⟩=some (.int .i64 fn):=HC.out.2.2.2.2.2.2.cell 2;have g3:(w3).cell? ⟨Q,3,none⟩=some (.slice fi.a fi.n fi.c):=HC.out.2.2.2.2.2.2.cell 3;have g4:(w3).cell? ⟨Q,4,none⟩=some (.slice fk.a fk.n fk.c):=HC.out.2.2.2.2.2.2.cell 4;have h5:=(show Sat W _ (sep (aT 91 5 a n c vs) (sep (bM B va (pos2:Int) day fv) (sep (kn J3) A))) from dI HC.out.2.2.2.2.2.2.forget).iy (.cells #[.slice none 0 0,.int .i64 fo,.int .i64 fn,.slice fi.a fi.n fi.c,.slice fk.a fk.n fk.c] 91);have Dj:=ah (fun (w:World)=>jm w [.slice none 0 0,.int .i64 fo,.int .i64 fn,.slice fi.a fi.n fi.c,.slice fk.a fk.n fk.c] 91)
    have H5:=ah h5;have hrc:lM.rel J3 [.slice none 0 0,.int .i64 fo,.int .i64 fn,.slice fi.a fi.n fi.c,.slice fk.a fk.n fk.c] ⟨refs,f⟩:=by
     refine⟨none,0,[.int .i64 fo,.int .i64 fn,.slice fi.a fi.n fi.c,.slice fk.a fk.n fk.c],by rw[HC.out.1],by rw[←HC.out.1];exact HC.out.2.2.2.1,rF.mono HC.out.2.2.1 HG.out.2.2⟩
    have hone:∀u∈[Value.slice none 0 0,.int .i64 fo,.int .i64 fn,.slice fi.a fi.n fi.c,.slice fk.a fk.n fk.c],u.oneCell'=true:=by
     intro u hu;rcases List.mem_cons.1 hu with rfl|hu
     ·rfl
     ·exact JJ HG.out.2.2 u hu
    have QY:=ah hrc;have HON:=ah hone;have X6:n≤2:=by have:=HL.out.1;omega
    clear h5 hrc hone;go_wp2_with (at_builtin;go_loud (refine aK rfl _ _ 28 rfl 91 5 88 _ Tryz.underlying28 vS rfl rfl H5.out rfl [.slice none 0 0,.int .i64 fo,.int .i64 fn,.slice fi.a fi.n fi.c,.slice fk.a fk.n fk.c] rfl (by simp) (by intro b' hb;cases hb;exact Dj.out _) HON.out (by omega) (by unfold maxLen;omega) ?_))
    intro a' c' w' h6;have H6:=ah h6;clear h6 H5 Dj X6;go_wp2;go_roundw;case rel=>
     obtain⟨hn,hlen,hle,hrows,hg,hp1,hp2,-⟩:=HL.out;have hq1:=HC.out.2.2.2.2.1;have hq2:=HC.out.2.2.2.2.2.1;refine⟨1,a',n+1,c',vs++[.slice none 0 0,.int .i64 fo,.int .i64 fn,.slice fi.a fi.n fi.c,.slice fk.a fk.n fk.c],cls++[⟨refs,f⟩],J3,pos2,rfl,rfl,by omega,ah ⟨by omega,by simp[hlen],eG hle (eG HG.out.2.1 HC.out.2.2.1),nZ ((lM.rows 5).mono (eG HG.out.2.1 HC.out.2.2.1) hrows) QY.out rfl,hg.snoc HG.out.1 (by rw[hlen];exact HC.out.2.1),by omega,by omega,H6.out⟩⟩
    case measure=>simp[intOf]
   ·as_aux_lemma=>
    go_wp2_with fail;refine xw.out.mono ?_;rintro e w2 ⟨f,fo,fn,fi,fk,J2,rfl,hgf,hle2,RN,h2⟩;obtain⟨Q,hQ⟩:=aC (w2.heap.size);obtain⟨w3,hw3⟩:=aC (w2.alloc (.cells #[.slice none 0 0,.int .i64 fo,.int .i64 fn,.slice fi.a fi.n fi.c,.slice fk.a fk.n fk.c] 91));have h3:=h2.alloc (.cells #[.slice none 0 0,.int .i64 fo,.int .i64 fn,.slice fi.a fi.n fi.c,.slice fk.a fk.n fk.c] 91);rw[←hQ,←hw3] at h3;have HQ:=ah (aH hQ hw3);have HG:=ah (aH hgf (aH hle2 RN));have KG:=ah h3;clear h2 h3 hQ hw3 hgf hle2 RN xw;have hb2:=bF l (pos+1) 2 (by omega);have pJ:=ah (aS va l (pos+1) 2 (by omega) (by omega) (by have:=HL.out.2.2.2.2.2.2.1;omega) (HV.out.mono (eG HL.out.2.2.1 HG.out.2.1)) (show Sat W w3 (sep (bM B va ((pos+1:Nat):Int) day fv) (sep (kn J2) (sep (blk Q (.cells #[.slice none 0 0,.int .i64 fo,.int .i64 fn,.slice fi.a fi.n fi.c,.slice fk.a fk.n fk.c] 91 (0,0))) (sep (aT 91 5 a n c vs) A)))) from dI KG.out));obtain⟨z2,hz2⟩:=aC (dH l (pos+1) 2);rw[←hz2] at pJ hb2;clear hz2;go_upto_region 7 with fail;rw[←HQ.out.1,←HQ.out.2];clear HQ;go_wp2_with fail;refine pJ.out.mono ?_;rintro e w4 ⟨rfl,h4⟩;have OY:=ah h4;clear h4 pJ KG;obtain⟨t2,ht2⟩:∃b,(z2==0)=b:=⟨_,rfl⟩
    go_upto_if 24 with fail;go_cut [] (fun wx=>∃(ra:Option Addr) (rn rc:Nat) (refs:List Int) (J3:Mem) (pos2:Nat),Hid (rn=refs.length∧lW 1 refs∧Mem.le J2 J3∧(sO.slice 1).rel J3 [.slice ra rn rc] refs∧pos≤pos2∧pos2≤pos+3∧Sat W wx (sep (blk Q (.cells #[.slice ra rn rc,.int .i64 fo,.int .i64 fn,.slice fi.a fi.n fi.c,.slice fk.a fk.n fk.c] 91 (0,0))) (sep (bM B va (pos2:Int) day fv) (sep (kn J3) (sep (aT 91 5 a n c vs) A))))))
    case first=>
     as_aux_lemma=>
      cases t2 with
      | true=>
       have hb3:=bF l (pos+1+1) 1 (by omega);have yB:=ah (aS va l (pos+1+1) 1 (by omega) (by omega) (by have:=HL.out.2.2.2.2.2.2.1;omega) (HV.out.mono (eG HL.out.2.2.1 HG.out.2.1)) OY.out);obtain⟨z3,hz3⟩:=aC (dH l (pos+1+1) 1);rw[←hz3] at yB hb3;clear hz3;go_wp2_with fail;refine yB.out.mono ?_;rintro e w5 ⟨rfl,h5⟩;obtain⟨J3,l3,k3,h6⟩:=litI h5.p1 [z3] 3 (by simp[maxLen]);obtain⟨LL,hLL⟩:=aC (w5.heap.size);have h7:Sat W (w5.alloc (.cells #[.int .i64 z3] 3)) (sep (blk Q (.cells #[.slice none 0 0,.int .i64 fo,.int .i64 fn,.slice fi.a fi.n fi.c,.slice fk.a fk.n fk.c] 91 (0,0))) (sep (bM B va ((pos+1+1+1:Nat):Int) day fv) (sep (kn J3) (sep (aT 91 5 a n c vs) A)))):=by have h9:Sat W (w5.alloc (.cells #[.int .i64 z3] 3)) _:=h6;simpa only[aA,au,aj] using h9
       have q0:=h7.cell 0;have q1:=h7.aI 0;simp only[List.getElem?_toArray,List.getElem?_cons_zero] at q0;have H8:=ah (h7.setCell 0 (.slice (some ⟨w5.heap.size,0,none⟩) 1 1));have HB3:=ah (aH hb3 (aH l3 k3));clear h5 h6 h7 hb3 l3 k3 yB hLL;go_wp2;go_meet;case rel=>
        exact⟨_,1,1,[z3],J3,pos+1+1+1,ah ⟨rfl,.inr (.inl ⟨z3.toNat,by have:=HB3.out.1;omega,by have:=HB3.out.1;rw[show ((z3.toNat:Nat):Int)=z3 by omega]⟩),HB3.out.2.1,HB3.out.2.2,by omega,by omega,H8.out⟩⟩
      | false=>
       go_wp2;go_meet;case rel=>
        exact⟨none,0,0,[],J2,pos+1+1,ah ⟨rfl,.inl rfl,bW _,nilI J2,by omega,by omega,by have h9:=OY.out;simpa only[aA,au,aj] using h9⟩⟩
    case rest=>
     as_aux_lemma=>
      obtain⟨ra,rn,rc,refs,J3,pos2,HC⟩:=hcut;clear OY ht2;go_upto_region 11 with fail;have g0:(wc).cell? ⟨Q,0,none⟩=some (.slice ra rn rc):=HC.out.2.2.2.2.2.2.cell 0;have g1:(wc).cell? ⟨Q,1,none⟩=some (.int .i64 fo):=HC.out.2.2.2.2.2.2.cell 1;have g2:(wc).cell? ⟨Q,2,none⟩=some (.int .i64 fn):=HC.out.2.2.2.2.2.2.cell 2;have g3:(wc).cell? ⟨Q,3,none⟩=some (.slice fi.a fi.n fi.c):=HC.out.2.2.2.2.2.2.cell 3;have g4:(wc).cell? ⟨Q,4,none⟩=some (.slice fk.a fk.n fk.c):=HC.out.2.2.2.2.2.2.cell 4;have h5:=(show Sat W _ (sep (aT 91 5 a n c vs) (sep (bM B va (pos2:Int) day fv) (sep (kn J3) A))) from dI HC.out.2.2.2.2.2.2.forget).iy (.cells #[.slice ra rn rc,.int .i64 fo,.int .i64 fn,.slice fi.a fi.n fi.c,.slice fk.a fk.n fk.c] 91);have Dj:=ah (fun (w:World)=>jm w [.slice ra rn rc,.int .i64 fo,.int .i64 fn,.slice fi.a fi.n fi.c,.slice fk.a fk.n fk.c] 91);have H5:=ah h5;have hrc:lM.rel J3 [.slice ra rn rc,.int .i64 fo,.int .i64 fn,.slice fi.a fi.n fi.c,.slice fk.a fk.n fk.c] ⟨refs,f⟩:=by
       refine⟨ra,rc,[.int .i64 fo,.int .i64 fn,.slice fi.a fi.n fi.c,.slice fk.a fk.n fk.c],by rw[HC.out.1],by rw[←HC.out.1];exact HC.out.2.2.2.1,rF.mono HC.out.2.2.1 HG.out.2.2⟩
      have hone:∀u∈[Value.slice ra rn rc,.int .i64 fo,.int .i64 fn,.slice fi.a fi.n fi.c,.slice fk.a fk.n fk.c],u.oneCell'=true:=by
       intro u hu;rcases List.mem_cons.1 hu with rfl|hu
       ·rfl
       ·exact JJ HG.out.2.2 u hu
      have QY:=ah hrc;have HON:=ah hone;have X6:n≤2:=by have:=HL.out.1;omega
      clear h5 hrc hone;go_wp2_with (at_builtin;go_loud (refine aK rfl _ _ 28 rfl 91 5 88 _ Tryz.underlying28 vS rfl rfl H5.out rfl [.slice ra rn rc,.int .i64 fo,.int .i64 fn,.slice fi.a fi.n fi.c,.slice fk.a fk.n fk.c] rfl (by simp) (by intro b' hb;cases hb;exact Dj.out _) HON.out (by omega) (by unfold maxLen;omega) ?_))
      intro a' c' w' h6;have H6:=ah h6;clear h6 H5 Dj X6;go_wp2;go_roundw;case rel=>
       obtain⟨hn,hlen,hle,hrows,hg,hp1,hp2,-⟩:=HL.out;have hq1:=HC.out.2.2.2.2.1;have hq2:=HC.out.2.2.2.2.2.1;refine⟨2,a',n+1,c',vs++[.slice ra rn rc,.int .i64 fo,.int .i64 fn,.slice fi.a fi.n fi.c,.slice fk.a fk.n fk.c],cls++[⟨refs,f⟩],J3,pos2,rfl,rfl,by omega,ah ⟨by omega,by simp[hlen],eG hle (eG HG.out.2.1 HC.out.2.2.1),nZ ((lM.rows 5).mono (eG HG.out.2.1 HC.out.2.2.1) hrows) QY.out rfl,hg.snoc HG.out.1 (by rw[hlen];exact HC.out.2.1),by omega,by omega,H6.out⟩⟩
      case measure=>simp[intOf]
   ·as_aux_lemma=>
    go_wp2_with fail;refine xw.out.mono ?_;rintro e w2 ⟨f,fo,fn,fi,fk,J2,rfl,hgf,hle2,RN,h2⟩;obtain⟨Q,hQ⟩:=aC (w2.heap.size);obtain⟨w3,hw3⟩:=aC (w2.alloc (.cells #[.slice none 0 0,.int .i64 fo,.int .i64 fn,.slice fi.a fi.n fi.c,.slice fk.a fk.n fk.c] 91));have h3:=h2.alloc (.cells #[.slice none 0 0,.int .i64 fo,.int .i64 fn,.slice fi.a fi.n fi.c,.slice fk.a fk.n fk.c] 91);rw[←hQ,←hw3] at h3;have HQ:=ah (aH hQ hw3);have HG:=ah (aH hgf (aH hle2 RN));have KG:=ah h3;clear h2 h3 hQ hw3 hgf hle2 RN xw;have hb2:=bF l (pos+1) 2 (by omega);have pJ:=ah (aS va l (pos+1) 2 (by omega) (by omega) (by have:=HL.out.2.2.2.2.2.2.1;omega) (HV.out.mono (eG HL.out.2.2.1 HG.out.2.1)) (show Sat W w3 (sep (bM B va ((pos+1:Nat):Int) day fv) (sep (kn J2) (sep (blk Q (.cells #[.slice none 0 0,.int .i64 fo,.int .i64 fn,.slice fi.a fi.n fi.c,.slice fk.a fk.n fk.c] 91 (0,0))) (sep (aT 91 5 a n c vs) A)))) from dI KG.out));obtain⟨z2,hz2⟩:=aC (dH l (pos+1) 2);rw[←hz2] at pJ hb2;clear hz2;go_upto_region 7 with fail;rw[←HQ.out.1,←HQ.out.2];clear HQ;go_wp2_with fail;refine pJ.out.mono ?_;rintro e w4 ⟨rfl,h4⟩;have OY:=ah h4;clear h4 pJ KG;obtain⟨t2,ht2⟩:∃b,(z2==0)=b:=⟨_,rfl⟩
    go_upto_if 24 with fail;go_cut [] (fun wx=>∃(ra:Option Addr) (rn rc:Nat) (refs:List Int) (J3:Mem) (pos2:Nat),Hid (rn=refs.length∧lW 2 refs∧Mem.le J2 J3∧(sO.slice 1).rel J3 [.slice ra rn rc] refs∧pos≤pos2∧pos2≤pos+3∧Sat W wx (sep (blk Q (.cells #[.slice ra rn rc,.int .i64 fo,.int .i64 fn,.slice fi.a fi.n fi.c,.slice fk.a fk.n fk.c] 91 (0,0))) (sep (bM B va (pos2:Int) day fv) (sep (kn J3) (sep (aT 91 5 a n c vs) A))))))
    case first=>
     as_aux_lemma=>
      cases t2 with
      | true=>
       have hb3:=bF l (pos+1+1) 2 (by omega);have yB:=ah (aS va l (pos+1+1) 2 (by omega) (by omega) (by have:=HL.out.2.2.2.2.2.2.1;omega) (HV.out.mono (eG HL.out.2.2.1 HG.out.2.1)) OY.out);obtain⟨z3,hz3⟩:=aC (dH l (pos+1+1) 2);rw[←hz3] at yB hb3;clear hz3;go_wp2_with fail;refine yB.out.mono ?_;rintro e w5 ⟨rfl,h5⟩;obtain⟨J3,l3,k3,h6⟩:=litI h5.p1 [z3] 3 (by simp[maxLen]);obtain⟨LL,hLL⟩:=aC (w5.heap.size);have h7:Sat W (w5.alloc (.cells #[.int .i64 z3] 3)) (sep (blk Q (.cells #[.slice none 0 0,.int .i64 fo,.int .i64 fn,.slice fi.a fi.n fi.c,.slice fk.a fk.n fk.c] 91 (0,0))) (sep (bM B va ((pos+1+1+1:Nat):Int) day fv) (sep (kn J3) (sep (aT 91 5 a n c vs) A)))):=by have h9:Sat W (w5.alloc (.cells #[.int .i64 z3] 3)) _:=h6;simpa only[aA,au,aj] using h9
       have q0:=h7.cell 0;have q1:=h7.aI 0;simp only[List.getElem?_toArray,List.getElem?_cons_zero] at q0;have H8:=ah (h7.setCell 0 (.slice (some ⟨w5.heap.size,0,none⟩) 1 1));have HB3:=ah (aH hb3 (aH l3 k3));clear h5 h6 h7 hb3 l3 k3 yB hLL;go_wp2;go_meet;case rel=>
        exact⟨_,1,1,[z3],J3,pos+1+1+1,ah ⟨rfl,.inr (.inl ⟨z3.toNat,by have:=HB3.out.1;omega,by have:=HB3.out.1;rw[show ((z3.toNat:Nat):Int)=z3 by omega]⟩),HB3.out.2.1,HB3.out.2.2,by omega,by omega,H8.out⟩⟩
      | false=>
       go_wp2;go_meet;case rel=>
        exact⟨none,0,0,[],J2,pos+1+1,ah ⟨rfl,.inl rfl,bW _,nilI J2,by omega,by omega,by have h9:=OY.out;simpa only[aA,au,aj] using h9⟩⟩
    case rest=>
     as_aux_lemma=>
      obtain⟨ra,rn,rc,refs,J3,pos2,HC⟩:=hcut;clear OY ht2;have hb4:=bF l pos2 4 (by omega);have XY:=ah (aS va l pos2 4 (by omega) (by omega) (by have:=HL.out.2.2.2.2.2.2.1;have:=HC.out.2.2.2.2.2.1;omega) (HV.out.mono (eG (eG HL.out.2.2.1 HG.out.2.1) HC.out.2.2.1)) (show Sat W wc (sep (bM B va (pos2:Int) day fv) (sep (kn J3) (sep (blk Q (.cells #[.slice ra rn rc,.int .i64 fo,.int .i64 fn,.slice fi.a fi.n fi.c,.slice fk.a fk.n fk.c] 91 (0,0))) (sep (aT 91 5 a n c vs) A)))) from dI HC.out.2.2.2.2.2.2));obtain⟨z4,hz4⟩:=aC (dH l pos2 4);rw[←hz4] at XY hb4;clear hz4;go_wp2_with fail;refine XY.out.mono ?_;rintro e w6 ⟨rfl,h6⟩;have HS6:=ah h6;clear h6 XY;obtain⟨t4,ht4⟩:∃b,(z4==0)=b:=⟨_,rfl⟩
      go_upto_if 36 with fail;go_cut [] (fun wy=>∃(ra:Option Addr) (rn rc:Nat) (refs:List Int) (J3:Mem) (pos2:Nat),Hid (rn=refs.length∧lW 2 refs∧Mem.le J2 J3∧(sO.slice 1).rel J3 [.slice ra rn rc] refs∧pos≤pos2∧pos2≤pos+4∧Sat W wy (sep (blk Q (.cells #[.slice ra rn rc,.int .i64 fo,.int .i64 fn,.slice fi.a fi.n fi.c,.slice fk.a fk.n fk.c] 91 (0,0))) (sep (bM B va (pos2:Int) day fv) (sep (kn J3) (sep (aT 91 5 a n c vs) A))))))
      case first=>
       as_aux_lemma=>
        cases t4 with
        | true=>
         obtain⟨J4,l4,k4,h7⟩:=litI HS6.out.p1 [0,1] 3 (by simp[maxLen]);have h8:Sat W (w6.alloc (.cells #[.int .i64 0,.int .i64 1] 3)) (sep (blk Q (.cells #[.slice ra rn rc,.int .i64 fo,.int .i64 fn,.slice fi.a fi.n fi.c,.slice fk.a fk.n fk.c] 91 (0,0))) (sep (bM B va ((pos2+1:Nat):Int) day fv) (sep (kn J4) (sep (aT 91 5 a n c vs) A)))):=by have h9:Sat W (w6.alloc (.cells #[.int .i64 0,.int .i64 1] 3)) _:=h7;simpa only[aA,au,aj] using h9
         have q0:=h8.cell 0;have q1:=h8.aI 0;simp only[List.getElem?_toArray,List.getElem?_cons_zero] at q0;have H8:=ah (h8.setCell 0 (.slice (some ⟨w6.heap.size,0,none⟩) 2 2));have HB3:=ah (aH l4 k4);clear h7 h8 l4 k4;go_wp2;go_meet;case rel=>
          exact⟨_,2,2,[0,1],J4,pos2+1,ah ⟨rfl,.inr (.inr ⟨rfl,rfl⟩),eG HC.out.2.2.1 HB3.out.1,HB3.out.2,by have:=HC.out.2.2.2.2.1;omega,by have:=HC.out.2.2.2.2.2.1;omega,H8.out⟩⟩
        | false=>
         go_wp2;go_meet;case rel=>
          exact⟨ra,rn,rc,refs,J3,pos2+1,ah ⟨HC.out.1,HC.out.2.1,HC.out.2.2.1,HC.out.2.2.2.1,by have:=HC.out.2.2.2.2.1;omega,by have:=HC.out.2.2.2.2.2.1;omega,by have h9:=HS6.out;simpa only[aA,au,aj] using h9⟩⟩
      case rest=>
       as_aux_lemma=>
        obtain⟨ra2,rn2,rc2,aaP,J4,ad6,HC2⟩:=hcut;clear HC HS6 ht4;have HC:=HC2;go_upto_region 11 with fail;have g0:=HC.out.2.2.2.2.2.2.cell 0;have g1:=HC.out.2.2.2.2.2.2.cell 1;have g2:=HC.out.2.2.2.2.2.2.cell 2;have g3:=HC.out.2.2.2.2.2.2.cell 3;have g4:=HC.out.2.2.2.2.2.2.cell 4;simp only[Ec,Ed,Ee] at g0 g1 g2 g3 g4;have h5:=(show Sat W _ (sep (aT 91 5 a n c vs) (sep (bM B va (ad6:Int) day fv) (sep (kn J4) A))) from dI HC.out.2.2.2.2.2.2.forget).iy (.cells #[.slice ra2 rn2 rc2,.int .i64 fo,.int .i64 fn,.slice fi.a fi.n fi.c,.slice fk.a fk.n fk.c] 91);have Dj:=ah (fun (w:World)=>jm w [.slice ra2 rn2 rc2,.int .i64 fo,.int .i64 fn,.slice fi.a fi.n fi.c,.slice fk.a fk.n fk.c] 91);have H5:=ah h5;have hrc:lM.rel J4 [.slice ra2 rn2 rc2,.int .i64 fo,.int .i64 fn,.slice fi.a fi.n fi.c,.slice fk.a fk.n fk.c] ⟨aaP,f⟩:=by
         refine⟨ra2,rc2,[.int .i64 fo,.int .i64 fn,.slice fi.a fi.n fi.c,.slice fk.a fk.n fk.c],by rw[HC.out.1],by rw[←HC.out.1];exact HC.out.2.2.2.1,rF.mono HC.out.2.2.1 HG.out.2.2⟩
        have hone:∀u∈[Value.slice ra2 rn2 rc2,.int .i64 fo,.int .i64 fn,.slice fi.a fi.n fi.c,.slice fk.a fk.n fk.c],u.oneCell'=true:=by
         intro u hu;rcases List.mem_cons.1 hu with rfl|hu
         ·rfl
         ·exact JJ HG.out.2.2 u hu
        have QY:=ah hrc;have HON:=ah hone;have X6:n≤2:=by have:=HL.out.1;omega
        clear h5 hrc hone;go_wp2_with (at_builtin;go_loud (refine aK rfl _ _ 28 rfl 91 5 88 _ Tryz.underlying28 vS rfl rfl H5.out rfl [.slice ra2 rn2 rc2,.int .i64 fo,.int .i64 fn,.slice fi.a fi.n fi.c,.slice fk.a fk.n fk.c] rfl (by simp) (by intro b' hb;cases hb;exact Dj.out _) HON.out (by omega) (by unfold maxLen;omega) ?_))
        intro a' c' w' h6;have H6:=ah h6;clear h6 H5 Dj X6;go_wp2;go_roundw;case rel=>
         obtain⟨hn,hlen,hle,hrows,hg,hp1,hp2,-⟩:=HL.out;have hq1:=HC.out.2.2.2.2.1;have hq2:=HC.out.2.2.2.2.2.1;refine⟨3,a',n+1,c',vs++[.slice ra2 rn2 rc2,.int .i64 fo,.int .i64 fn,.slice fi.a fi.n fi.c,.slice fk.a fk.n fk.c],cls++[⟨aaP,f⟩],J4,ad6,rfl,rfl,by omega,ah ⟨by omega,by simp[hlen],eG hle (eG HG.out.2.1 HC.out.2.2.1),nZ ((lM.rows 5).mono (eG HG.out.2.1 HC.out.2.2.1) hrows) QY.out rfl,hg.snoc HG.out.1 (by rw[hlen];exact HC.out.2.1),by omega,by omega,H6.out⟩⟩
        case measure=>simp[intOf]
  ·as_aux_lemma=>
   have hxe:x=m:=by omega
   have hltz:¬(x:Int)<(m:Int):=by omega
   have FZ:=ah hxe;clear hxe hlt hxm adY;go_wp2;go_ret;obtain⟨hn,hlen,hle,hrows,hg,hp1,hp2,hS⟩:=HL.out;have hsw:=hS.fQ;obtain⟨J',hle',hJ',h9⟩:=(show Sat W wr (sep (U0 a vs) (sep (kn J) (sep (bM B va (pos:Int) day fv) A))) from dI hS.eF).learn;have hm:=HM.out;have hxe:=FZ.out;have hrel:(lM.slice 5).rel J' [.slice a n c] cls:=⟨a,c,vs,by rw[hn,hlen],by rw[hlen,←hn];exact hsw,hJ',(lM.rows 5).mono hle' hrows⟩
   refine⟨cls,a,n,c,rfl,⟨by omega,by omega,hg⟩,J',eG hle hle',hrel,pos,hp1,by omega,h9.p1⟩
end Go.Proofs.YthfmaclnccdcbaaGreatDoor

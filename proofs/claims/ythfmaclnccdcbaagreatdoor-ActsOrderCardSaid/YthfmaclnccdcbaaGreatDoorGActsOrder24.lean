/- Part of a proof. -/
import Derived.Test.YthfmaclnccdcbaaGreatDoorGActsOrder23
namespace PA
open Go
def GK (l:List Cl):Prop:=∀(i:Nat) (h:i<l.length),cO l[i].body∧lg i l[i].refs
theorem GK.snoc {l:List Cl} {x:Cl} (h:GK l) (hb:cO x.body) (hr:lg l.length x.refs):GK (l++[x]):=by
 intro i hi
 by_cases e:i<l.length
 ·rw[List.getElem_append_left e];exact h i e
 ·have e2:i=l.length:=by simp at hi;omega
  subst e2;simp only[List.getElem_append_right (Nat.le_refl _),Nat.sub_self,List.getElem_singleton];exact⟨hb,hr⟩
end PA
namespace Go.Proofs.YthfmaclnccdcbaaGreatDoor
open Go.RowKit PA
theorem uT:(Tryz.prog.info? 91).map (fun i=>(i.zero,i.size,i.bytes))=some (some (.agg #[.slice none 0 0,.int .i64 0,.int .i64 0,.slice none 0 0,.slice none 0 0]),5,88):=by kernel_rfl
def bsCl (n:Nat) (p:Array (Nat×Value)):Sem Value:=Instr.buildSlice 28 n p
theorem vJ (n:Nat) (p:Array (Nat×Value)):Instr.buildSlice 28 n p=bsCl n p:=rfl
theorem XV (w:World) (c0 c1 c2 c3 c4:Value):(bsCl 1 #[(0,.agg #[c0,c1,c2,c3,c4])]).run Tryz.prog w=.ok (.slice (some ⟨w.heap.size,0,none⟩) 1 1) (w.alloc (.cells #[c0,c1,c2,c3,c4] 91)):=by
 obtain⟨i,h1,h2,h3,h4⟩:=info_parts uT;exact run_buildSlice w 28 91 1 _ _ i _ Tryz.underlying28 h1 h2 (by rw[h3];omega) (by rw[h3];omega) (by rw[h3];kernel_rfl)
theorem IG {I:Mem} {c:List Value} {f:Fm} (h:rF.rel I c f):∀u∈c,u.oneCell'=true:=by
 obtain⟨o,n,i,k⟩:=f;obtain⟨a,c',b,d,rfl,-,-⟩:=dR.1 h;intro u hu;simp only[List.mem_cons,List.not_mem_nil,or_false] at hu;rcases hu with rfl|rfl|rfl|rfl<;>rfl
attribute [local go_sem ↓] vJ
attribute [local go_sem] XV
set_option maxRecDepth 100000 in
set_option maxHeartbeats 8000000 in
theorem uJ {W w:World} {A:aC} {I:Mem} {B:Nat} {day:Int} {fv:Value} (va:Value) (l:List Int) (i:Nat) (hi:i<900000) (hv:Qq I va l) (h:Sat W w (sep (bH B va i day fv) (sep (kn I) A))):
 Calls Tryz.prog 111 #[.pointer (some ⟨B,0,none⟩)] w fun e w'=>∃cl a n c J i',e=.returned (.slice a n c)∧jW cl∧Mem.le I J∧(kM.slice 5).rel J [.slice a n c] cl∧i≤i'∧i'≤i+20∧Sat W w' (sep (bH B va (i':Int) day fv) (sep (kn J) A)):=by
 have HN:=ah (aQ va l i 3 (by omega) (by omega) (by omega) hv h);have hb:=bD l i 3 (by omega);obtain⟨r0,hr0⟩:=aB (dD l i 3);rw[←hr0] at hb HN;obtain⟨r,rfl⟩:∃r:Nat,r0=(r:Int):=⟨r0.toNat,by omega⟩
 have hr:r<3:=by omega
 have hr3:(r:Int)<3:=by omega
 obtain⟨m,hm⟩:∃m:Nat,m=1+r:=⟨_,rfl⟩
 have hmz:1+(r:Int)=(m:Int):=by omega
 have hm3:(m:Int)≤3:=by omega
 have HM:Hid (1≤m∧m≤3):=ah (by omega);have HV:=ah hv;clear h hv hr0 hb hm hr
 go_enter Tryz.func111,Tryz.ntmps111
 go_wp2_with fail
 refine HN.out.mono ?_;rintro e w1 ⟨rfl,h1⟩;have Jc:=ah h1;clear h1 HN
 go_wp2_with fail
 go_loopw [5,3] (fun iv ov wr=>∃(x:Nat) (a:Option Addr) (n c:Nat) (vs:List Value) (cls:List Cl) (J:Mem) (pos:Nat),iv=.int .i64 x∧ov=.slice a n c∧x≤m∧Hid (n=x∧cls.length=x∧Mem.le I J∧(kM.rows 5).rel J vs cls∧GK cls∧i≤pos∧pos≤i+1+4*x∧Sat W wr (sep (aT 91 5 a n c vs) (sep (bH B va (pos:Int) day fv) (sep (kn J) A))))) (fun iv _ _=>4-(intOf iv).toNat)
 case atStart=>
  exact⟨0,none,0,0,[],[],I,i+1,rfl,rfl,by omega,ah ⟨rfl,rfl,Mem.le_refl _,⟨[],rfl,trivial⟩,(fun i h=>absurd h (Nat.not_lt_zero _)),Nat.le_succ _,by omega,Jc.out.gq 91 5⟩⟩
 case round=>
  obtain⟨x,a,n,c,vs,cls,J,pos,rfl,rfl,hxm,HL⟩:=hrel;have ab2:x≤3:=by have:=HM.out.2;omega
  by_cases hlt:x<m
  ·have hltz:(x:Int)<(m:Int):=by omega
   have hx2:x=0∨x=1∨x=2:=by have:=HM.out.2;omega
   have vY:Hid (Calls Tryz.prog 110 #[.pointer (some ⟨B,0,none⟩)] wr fun e w'=>∃(f:Fm) (fo fn:Int) (fi fk:Sv) (J':Mem),e=.returned (.agg #[.int .i64 fo,.int .i64 fn,.slice fi.a fi.n fi.c,.slice fk.a fk.n fk.c])∧cO f∧Mem.le J J'∧rF.rel J' [.int .i64 fo,.int .i64 fn,.slice fi.a fi.n fi.c,.slice fk.a fk.n fk.c] f∧Sat W w' (sep (bH B va ((pos+1:Nat):Int) day fv) (sep (kn J') (sep (aT 91 5 a n c vs) A)))):=
    ah (wG va l pos (by have:=HL.out.2.2.2.2.2.2.1;omega) (HV.out.mono HL.out.2.2.1) (show Sat W wr (sep (bH B va (pos:Int) day fv) (sep (kn J) (sep (aT 91 5 a n c vs) A))) from by
     have h9:=HL.out.2.2.2.2.2.2.2;simpa only[aA,ay,aj] using h9))
   clear hlt hxm ab2;rcases hx2 with rfl|rfl|rfl
   ·as_aux_lemma=>
    go_wp2_with fail
    refine vY.out.mono ?_;rintro e w2 ⟨f,fo,fn,fi,fk,J2,rfl,hgf,hle2,PK,h2⟩;obtain⟨Q,hQ⟩:=aB (w2.heap.size);obtain⟨w3,hw3⟩:=aB (w2.alloc (.cells #[.slice none 0 0,.int .i64 fo,.int .i64 fn,.slice fi.a fi.n fi.c,.slice fk.a fk.n fk.c] 91));have h3:=h2.alloc (.cells #[.slice none 0 0,.int .i64 fo,.int .i64 fn,.slice fi.a fi.n fi.c,.slice fk.a fk.n fk.c] 91);rw[←hQ,←hw3] at h3;have HQ:=ah (And.intro hQ hw3);have HG:=ah (And.intro hgf (And.intro hle2 PK));have O6:=ah h3;clear h2 h3 hQ hw3 hgf hle2 PK vY;have HC:Hid (∃(ra:Option Addr) (rn rc:Nat) (refs:List Int) (J3:Mem) (pos2:Nat),Hid (ra=none∧rn=0∧rc=0)∧Hid (rn=refs.length∧lg 0 refs∧Mem.le J2 J3∧(qX.slice 1).rel J3 [.slice ra rn rc] refs∧pos≤pos2∧pos2≤pos+4∧Sat W w3 (sep (blk Q (.cells #[.slice ra rn rc,.int .i64 fo,.int .i64 fn,.slice fi.a fi.n fi.c,.slice fk.a fk.n fk.c] 91 (0,0))) (sep (bH B va (pos2:Int) day fv) (sep (kn J3) (sep (aT 91 5 a n c vs) A)))))):=ah ⟨none,0,0,[],J2,pos+1,ah ⟨rfl,rfl,rfl⟩,ah ⟨rfl,.inl rfl,Mem.le_refl _,nilI J2,by omega,by omega,O6.out⟩⟩;obtain⟨ra,rn,rc,refs,J3,pos2,HZ,HC⟩:=HC.out
    go_upto_region 7 with (fail)
    rw[←HQ.out.1,←HQ.out.2]
    go_upto_region 11 with (fail)
    have HC2:=HC;obtain⟨hz1,hz2,hz3⟩:=HZ.out;subst hz1 hz2 hz3;have g0:(w3).cell? ⟨Q,0,none⟩=some (.slice none 0 0):=HC.out.2.2.2.2.2.2.cell 0;have g1:(w3).cell? ⟨Q,1,none⟩=some (.int .i64 fo):=HC.out.2.2.2.2.2.2.cell 1;have g2:(w3).cell? ⟨Q,2,none⟩=some (.int .i64 fn):=HC.out.2.2.2.2.2.2.cell 2;have g3:(w3).cell? ⟨Q,3,none⟩=some (.slice fi.a fi.n fi.c):=HC.out.2.2.2.2.2.2.cell 3;have g4:(w3).cell? ⟨Q,4,none⟩=some (.slice fk.a fk.n fk.c):=HC.out.2.2.2.2.2.2.cell 4;have h5:=(show Sat W _ (sep (aT 91 5 a n c vs) (sep (bH B va (pos2:Int) day fv) (sep (kn J3) A))) from dJ HC.out.2.2.2.2.2.2.forget).gQ (.cells #[.slice none 0 0,.int .i64 fo,.int .i64 fn,.slice fi.a fi.n fi.c,.slice fk.a fk.n fk.c] 91);have Aa:=ah (fun (w:World)=>iP w [.slice none 0 0,.int .i64 fo,.int .i64 fn,.slice fi.a fi.n fi.c,.slice fk.a fk.n fk.c] 91);have H5:=ah h5;have hrc:kM.rel J3 [.slice none 0 0,.int .i64 fo,.int .i64 fn,.slice fi.a fi.n fi.c,.slice fk.a fk.n fk.c] ⟨refs,f⟩:=by
     refine⟨none,0,[.int .i64 fo,.int .i64 fn,.slice fi.a fi.n fi.c,.slice fk.a fk.n fk.c],by rw[HC.out.1],by rw[←HC.out.1];exact HC.out.2.2.2.1,rF.mono HC.out.2.2.1 HG.out.2.2⟩
    have hone:∀u∈[Value.slice none 0 0,.int .i64 fo,.int .i64 fn,.slice fi.a fi.n fi.c,.slice fk.a fk.n fk.c],u.oneCell'=true:=by
     intro u hu;rcases List.mem_cons.1 hu with rfl|hu
     ·rfl
     ·exact IG HG.out.2.2 u hu
    have O5:=ah hrc;have HON:=ah hone;have Vw:n≤2:=by have:=HL.out.1;omega
    clear h5 hrc hone
    go_wp2_with (at_builtin;go_loud (refine aJ rfl _ _ 28 rfl 91 5 88 _ Tryz.underlying28 uT rfl rfl H5.out rfl [.slice none 0 0,.int .i64 fo,.int .i64 fn,.slice fi.a fi.n fi.c,.slice fk.a fk.n fk.c] rfl (by simp) (by intro b' hb;cases hb;exact Aa.out _) HON.out (by omega) (by unfold maxLen;omega) ?_))
    intro a' c' w' h6;have H6:=ah h6;clear h6 H5 Aa Vw
    go_wp2
    go_roundw
    case rel=>
     obtain⟨hn,hlen,hle,hrows,hg,hp1,hp2,-⟩:=HL.out;have hq1:=HC.out.2.2.2.2.1;have hq2:=HC.out.2.2.2.2.2.1;refine⟨1,a',n+1,c',vs++[.slice none 0 0,.int .i64 fo,.int .i64 fn,.slice fi.a fi.n fi.c,.slice fk.a fk.n fk.c],cls++[⟨refs,f⟩],J3,pos2,rfl,rfl,by omega,ah ⟨by omega,by simp[hlen],eG hle (eG HG.out.2.1 HC.out.2.2.1),mW ((kM.rows 5).mono (eG HG.out.2.1 HC.out.2.2.1) hrows) O5.out rfl,hg.snoc HG.out.1 (by rw[hlen];exact HC.out.2.1),by omega,by omega,H6.out⟩⟩
    case measure=>simp[intOf]
   ·as_aux_lemma=>
    go_wp2_with fail
    refine vY.out.mono ?_;rintro e w2 ⟨f,fo,fn,fi,fk,J2,rfl,hgf,hle2,PK,h2⟩;obtain⟨Q,hQ⟩:=aB (w2.heap.size);obtain⟨w3,hw3⟩:=aB (w2.alloc (.cells #[.slice none 0 0,.int .i64 fo,.int .i64 fn,.slice fi.a fi.n fi.c,.slice fk.a fk.n fk.c] 91));have h3:=h2.alloc (.cells #[.slice none 0 0,.int .i64 fo,.int .i64 fn,.slice fi.a fi.n fi.c,.slice fk.a fk.n fk.c] 91);rw[←hQ,←hw3] at h3;have HQ:=ah (And.intro hQ hw3);have HG:=ah (And.intro hgf (And.intro hle2 PK));have O6:=ah h3;clear h2 h3 hQ hw3 hgf hle2 PK vY;have hb2:=bD l (pos+1) 2 (by omega);have oZ:=ah (aQ va l (pos+1) 2 (by omega) (by omega) (by have:=HL.out.2.2.2.2.2.2.1;omega) (HV.out.mono (eG HL.out.2.2.1 HG.out.2.1)) (show Sat W w3 (sep (bH B va ((pos+1:Nat):Int) day fv) (sep (kn J2) (sep (blk Q (.cells #[.slice none 0 0,.int .i64 fo,.int .i64 fn,.slice fi.a fi.n fi.c,.slice fk.a fk.n fk.c] 91 (0,0))) (sep (aT 91 5 a n c vs) A)))) from dJ O6.out));obtain⟨z2,hz2⟩:=aB (dD l (pos+1) 2);rw[←hz2] at oZ hb2;clear hz2
    go_upto_region 7 with (fail)
    rw[←HQ.out.1,←HQ.out.2];clear HQ
    go_wp2_with fail
    refine oZ.out.mono ?_;rintro e w4 ⟨rfl,h4⟩;have MP:=ah h4;clear h4 oZ O6;obtain⟨t2,ht2⟩:∃b,(z2==0)=b:=⟨_,rfl⟩
    go_upto_if 24 with (fail)
    go_cut [] (fun wx=>∃(ra:Option Addr) (rn rc:Nat) (refs:List Int) (J3:Mem) (pos2:Nat),Hid (rn=refs.length∧lg 1 refs∧Mem.le J2 J3∧(qX.slice 1).rel J3 [.slice ra rn rc] refs∧pos≤pos2∧pos2≤pos+3∧Sat W wx (sep (blk Q (.cells #[.slice ra rn rc,.int .i64 fo,.int .i64 fn,.slice fi.a fi.n fi.c,.slice fk.a fk.n fk.c] 91 (0,0))) (sep (bH B va (pos2:Int) day fv) (sep (kn J3) (sep (aT 91 5 a n c vs) A))))))
    case first=>
     as_aux_lemma=>
      cases t2 with
      | true=>
       have hb3:=bD l (pos+1+1) 1 (by omega);have yD:=ah (aQ va l (pos+1+1) 1 (by omega) (by omega) (by have:=HL.out.2.2.2.2.2.2.1;omega) (HV.out.mono (eG HL.out.2.2.1 HG.out.2.1)) MP.out);obtain⟨z3,hz3⟩:=aB (dD l (pos+1+1) 1);rw[←hz3] at yD hb3;clear hz3
       go_wp2_with fail
       refine yD.out.mono ?_;rintro e w5 ⟨rfl,h5⟩;obtain⟨J3,l3,k3,h6⟩:=Xa h5.p1 [z3] 3 (by simp[maxLen]);obtain⟨LL,hLL⟩:=aB (w5.heap.size);have h7:Sat W (w5.alloc (.cells #[.int .i64 z3] 3)) (sep (blk Q (.cells #[.slice none 0 0,.int .i64 fo,.int .i64 fn,.slice fi.a fi.n fi.c,.slice fk.a fk.n fk.c] 91 (0,0))) (sep (bH B va ((pos+1+1+1:Nat):Int) day fv) (sep (kn J3) (sep (aT 91 5 a n c vs) A)))):=by have h9:Sat W (w5.alloc (.cells #[.int .i64 z3] 3)) _:=h6;simpa only[aA,ay,aj] using h9
       have q0:=h7.cell 0;have q1:=h7.aH 0;simp only[List.getElem?_toArray,List.getElem?_cons_zero] at q0;have H8:=ah (h7.setCell 0 (.slice (some ⟨w5.heap.size,0,none⟩) 1 1));have HB3:=ah (And.intro hb3 (And.intro l3 k3));clear h5 h6 h7 hb3 l3 k3 yD hLL
       go_wp2
       go_meet
       case rel=>
        exact⟨_,1,1,[z3],J3,pos+1+1+1,ah ⟨rfl,.inr (.inl ⟨z3.toNat,by have:=HB3.out.1;omega,by have:=HB3.out.1;rw[show ((z3.toNat:Nat):Int)=z3 by omega]⟩),HB3.out.2.1,HB3.out.2.2,by omega,by omega,H8.out⟩⟩
      | false=>
       go_wp2
       go_meet
       case rel=>
        exact⟨none,0,0,[],J2,pos+1+1,ah ⟨rfl,.inl rfl,Mem.le_refl _,nilI J2,by omega,by omega,by have h9:=MP.out;simpa only[aA,ay,aj] using h9⟩⟩
    case rest=>
     as_aux_lemma=>
      obtain⟨ra,rn,rc,refs,J3,pos2,HC⟩:=hcut;clear MP ht2
      go_upto_region 11 with (fail)
      have g0:(wc).cell? ⟨Q,0,none⟩=some (.slice ra rn rc):=HC.out.2.2.2.2.2.2.cell 0;have g1:(wc).cell? ⟨Q,1,none⟩=some (.int .i64 fo):=HC.out.2.2.2.2.2.2.cell 1;have g2:(wc).cell? ⟨Q,2,none⟩=some (.int .i64 fn):=HC.out.2.2.2.2.2.2.cell 2;have g3:(wc).cell? ⟨Q,3,none⟩=some (.slice fi.a fi.n fi.c):=HC.out.2.2.2.2.2.2.cell 3;have g4:(wc).cell? ⟨Q,4,none⟩=some (.slice fk.a fk.n fk.c):=HC.out.2.2.2.2.2.2.cell 4;have h5:=(show Sat W _ (sep (aT 91 5 a n c vs) (sep (bH B va (pos2:Int) day fv) (sep (kn J3) A))) from dJ HC.out.2.2.2.2.2.2.forget).gQ (.cells #[.slice ra rn rc,.int .i64 fo,.int .i64 fn,.slice fi.a fi.n fi.c,.slice fk.a fk.n fk.c] 91);have Aa:=ah (fun (w:World)=>iP w [.slice ra rn rc,.int .i64 fo,.int .i64 fn,.slice fi.a fi.n fi.c,.slice fk.a fk.n fk.c] 91);have H5:=ah h5;have hrc:kM.rel J3 [.slice ra rn rc,.int .i64 fo,.int .i64 fn,.slice fi.a fi.n fi.c,.slice fk.a fk.n fk.c] ⟨refs,f⟩:=by
       refine⟨ra,rc,[.int .i64 fo,.int .i64 fn,.slice fi.a fi.n fi.c,.slice fk.a fk.n fk.c],by rw[HC.out.1],by rw[←HC.out.1];exact HC.out.2.2.2.1,rF.mono HC.out.2.2.1 HG.out.2.2⟩
      have hone:∀u∈[Value.slice ra rn rc,.int .i64 fo,.int .i64 fn,.slice fi.a fi.n fi.c,.slice fk.a fk.n fk.c],u.oneCell'=true:=by
       intro u hu;rcases List.mem_cons.1 hu with rfl|hu
       ·rfl
       ·exact IG HG.out.2.2 u hu
      have O5:=ah hrc;have HON:=ah hone;have Vw:n≤2:=by have:=HL.out.1;omega
      clear h5 hrc hone
      go_wp2_with (at_builtin;go_loud (refine aJ rfl _ _ 28 rfl 91 5 88 _ Tryz.underlying28 uT rfl rfl H5.out rfl [.slice ra rn rc,.int .i64 fo,.int .i64 fn,.slice fi.a fi.n fi.c,.slice fk.a fk.n fk.c] rfl (by simp) (by intro b' hb;cases hb;exact Aa.out _) HON.out (by omega) (by unfold maxLen;omega) ?_))
      intro a' c' w' h6;have H6:=ah h6;clear h6 H5 Aa Vw
      go_wp2
      go_roundw
      case rel=>
       obtain⟨hn,hlen,hle,hrows,hg,hp1,hp2,-⟩:=HL.out;have hq1:=HC.out.2.2.2.2.1;have hq2:=HC.out.2.2.2.2.2.1;refine⟨2,a',n+1,c',vs++[.slice ra rn rc,.int .i64 fo,.int .i64 fn,.slice fi.a fi.n fi.c,.slice fk.a fk.n fk.c],cls++[⟨refs,f⟩],J3,pos2,rfl,rfl,by omega,ah ⟨by omega,by simp[hlen],eG hle (eG HG.out.2.1 HC.out.2.2.1),mW ((kM.rows 5).mono (eG HG.out.2.1 HC.out.2.2.1) hrows) O5.out rfl,hg.snoc HG.out.1 (by rw[hlen];exact HC.out.2.1),by omega,by omega,H6.out⟩⟩
      case measure=>simp[intOf]
   ·as_aux_lemma=>
    go_wp2_with fail
    refine vY.out.mono ?_;rintro e w2 ⟨f,fo,fn,fi,fk,J2,rfl,hgf,hle2,PK,h2⟩;obtain⟨Q,hQ⟩:=aB (w2.heap.size);obtain⟨w3,hw3⟩:=aB (w2.alloc (.cells #[.slice none 0 0,.int .i64 fo,.int .i64 fn,.slice fi.a fi.n fi.c,.slice fk.a fk.n fk.c] 91));have h3:=h2.alloc (.cells #[.slice none 0 0,.int .i64 fo,.int .i64 fn,.slice fi.a fi.n fi.c,.slice fk.a fk.n fk.c] 91);rw[←hQ,←hw3] at h3;have HQ:=ah (And.intro hQ hw3);have HG:=ah (And.intro hgf (And.intro hle2 PK));have O6:=ah h3;clear h2 h3 hQ hw3 hgf hle2 PK vY;have hb2:=bD l (pos+1) 2 (by omega);have oZ:=ah (aQ va l (pos+1) 2 (by omega) (by omega) (by have:=HL.out.2.2.2.2.2.2.1;omega) (HV.out.mono (eG HL.out.2.2.1 HG.out.2.1)) (show Sat W w3 (sep (bH B va ((pos+1:Nat):Int) day fv) (sep (kn J2) (sep (blk Q (.cells #[.slice none 0 0,.int .i64 fo,.int .i64 fn,.slice fi.a fi.n fi.c,.slice fk.a fk.n fk.c] 91 (0,0))) (sep (aT 91 5 a n c vs) A)))) from dJ O6.out));obtain⟨z2,hz2⟩:=aB (dD l (pos+1) 2);rw[←hz2] at oZ hb2;clear hz2
    go_upto_region 7 with (fail)
    rw[←HQ.out.1,←HQ.out.2];clear HQ
    go_wp2_with fail
    refine oZ.out.mono ?_;rintro e w4 ⟨rfl,h4⟩;have MP:=ah h4;clear h4 oZ O6;obtain⟨t2,ht2⟩:∃b,(z2==0)=b:=⟨_,rfl⟩
    go_upto_if 24 with (fail)
    go_cut [] (fun wx=>∃(ra:Option Addr) (rn rc:Nat) (refs:List Int) (J3:Mem) (pos2:Nat),Hid (rn=refs.length∧lg 2 refs∧Mem.le J2 J3∧(qX.slice 1).rel J3 [.slice ra rn rc] refs∧pos≤pos2∧pos2≤pos+3∧Sat W wx (sep (blk Q (.cells #[.slice ra rn rc,.int .i64 fo,.int .i64 fn,.slice fi.a fi.n fi.c,.slice fk.a fk.n fk.c] 91 (0,0))) (sep (bH B va (pos2:Int) day fv) (sep (kn J3) (sep (aT 91 5 a n c vs) A))))))
    case first=>
     as_aux_lemma=>
      cases t2 with
      | true=>
       have hb3:=bD l (pos+1+1) 2 (by omega);have yD:=ah (aQ va l (pos+1+1) 2 (by omega) (by omega) (by have:=HL.out.2.2.2.2.2.2.1;omega) (HV.out.mono (eG HL.out.2.2.1 HG.out.2.1)) MP.out);obtain⟨z3,hz3⟩:=aB (dD l (pos+1+1) 2);rw[←hz3] at yD hb3;clear hz3
       go_wp2_with fail
       refine yD.out.mono ?_;rintro e w5 ⟨rfl,h5⟩;obtain⟨J3,l3,k3,h6⟩:=Xa h5.p1 [z3] 3 (by simp[maxLen]);obtain⟨LL,hLL⟩:=aB (w5.heap.size);have h7:Sat W (w5.alloc (.cells #[.int .i64 z3] 3)) (sep (blk Q (.cells #[.slice none 0 0,.int .i64 fo,.int .i64 fn,.slice fi.a fi.n fi.c,.slice fk.a fk.n fk.c] 91 (0,0))) (sep (bH B va ((pos+1+1+1:Nat):Int) day fv) (sep (kn J3) (sep (aT 91 5 a n c vs) A)))):=by have h9:Sat W (w5.alloc (.cells #[.int .i64 z3] 3)) _:=h6;simpa only[aA,ay,aj] using h9
       have q0:=h7.cell 0;have q1:=h7.aH 0;simp only[List.getElem?_toArray,List.getElem?_cons_zero] at q0;have H8:=ah (h7.setCell 0 (.slice (some ⟨w5.heap.size,0,none⟩) 1 1));have HB3:=ah (And.intro hb3 (And.intro l3 k3));clear h5 h6 h7 hb3 l3 k3 yD hLL
       go_wp2
       go_meet
       case rel=>
        exact⟨_,1,1,[z3],J3,pos+1+1+1,ah ⟨rfl,.inr (.inl ⟨z3.toNat,by have:=HB3.out.1;omega,by have:=HB3.out.1;rw[show ((z3.toNat:Nat):Int)=z3 by omega]⟩),HB3.out.2.1,HB3.out.2.2,by omega,by omega,H8.out⟩⟩
      | false=>
       go_wp2
       go_meet
       case rel=>
        exact⟨none,0,0,[],J2,pos+1+1,ah ⟨rfl,.inl rfl,Mem.le_refl _,nilI J2,by omega,by omega,by have h9:=MP.out;simpa only[aA,ay,aj] using h9⟩⟩
    case rest=>
     as_aux_lemma=>
      obtain⟨ra,rn,rc,refs,J3,pos2,HC⟩:=hcut;clear MP ht2;have hb4:=bD l pos2 4 (by omega);have Y6:=ah (aQ va l pos2 4 (by omega) (by omega) (by have:=HL.out.2.2.2.2.2.2.1;have:=HC.out.2.2.2.2.2.1;omega) (HV.out.mono (eG (eG HL.out.2.2.1 HG.out.2.1) HC.out.2.2.1)) (show Sat W wc (sep (bH B va (pos2:Int) day fv) (sep (kn J3) (sep (blk Q (.cells #[.slice ra rn rc,.int .i64 fo,.int .i64 fn,.slice fi.a fi.n fi.c,.slice fk.a fk.n fk.c] 91 (0,0))) (sep (aT 91 5 a n c vs) A)))) from dJ HC.out.2.2.2.2.2.2));obtain⟨z4,hz4⟩:=aB (dD l pos2 4);rw[←hz4] at Y6 hb4;clear hz4
      go_wp2_with fail
      refine Y6.out.mono ?_;rintro e w6 ⟨rfl,h6⟩;have HS6:=ah h6;clear h6 Y6;obtain⟨t4,ht4⟩:∃b,(z4==0)=b:=⟨_,rfl⟩
      go_upto_if 36 with (fail)
      go_cut [] (fun wy=>∃(ra:Option Addr) (rn rc:Nat) (refs:List Int) (J3:Mem) (pos2:Nat),Hid (rn=refs.length∧lg 2 refs∧Mem.le J2 J3∧(qX.slice 1).rel J3 [.slice ra rn rc] refs∧pos≤pos2∧pos2≤pos+4∧Sat W wy (sep (blk Q (.cells #[.slice ra rn rc,.int .i64 fo,.int .i64 fn,.slice fi.a fi.n fi.c,.slice fk.a fk.n fk.c] 91 (0,0))) (sep (bH B va (pos2:Int) day fv) (sep (kn J3) (sep (aT 91 5 a n c vs) A))))))
      case first=>
       as_aux_lemma=>
        cases t4 with
        | true=>
         obtain⟨J4,l4,k4,h7⟩:=Xa HS6.out.p1 [0,1] 3 (by simp[maxLen]);have h8:Sat W (w6.alloc (.cells #[.int .i64 0,.int .i64 1] 3)) (sep (blk Q (.cells #[.slice ra rn rc,.int .i64 fo,.int .i64 fn,.slice fi.a fi.n fi.c,.slice fk.a fk.n fk.c] 91 (0,0))) (sep (bH B va ((pos2+1:Nat):Int) day fv) (sep (kn J4) (sep (aT 91 5 a n c vs) A)))):=by have h9:Sat W (w6.alloc (.cells #[.int .i64 0,.int .i64 1] 3)) _:=h7;simpa only[aA,ay,aj] using h9
         have q0:=h8.cell 0;have q1:=h8.aH 0;simp only[List.getElem?_toArray,List.getElem?_cons_zero] at q0;have H8:=ah (h8.setCell 0 (.slice (some ⟨w6.heap.size,0,none⟩) 2 2));have HB3:=ah (And.intro l4 k4);clear h7 h8 l4 k4
         go_wp2
         go_meet
         case rel=>
          exact⟨_,2,2,[0,1],J4,pos2+1,ah ⟨rfl,.inr (.inr ⟨rfl,rfl⟩),eG HC.out.2.2.1 HB3.out.1,HB3.out.2,by have:=HC.out.2.2.2.2.1;omega,by have:=HC.out.2.2.2.2.2.1;omega,H8.out⟩⟩
        | false=>
         go_wp2
         go_meet
         case rel=>
          exact⟨ra,rn,rc,refs,J3,pos2+1,ah ⟨HC.out.1,HC.out.2.1,HC.out.2.2.1,HC.out.2.2.2.1,by have:=HC.out.2.2.2.2.1;omega,by have:=HC.out.2.2.2.2.2.1;omega,by have h9:=HS6.out;simpa only[aA,ay,aj] using h9⟩⟩
      case rest=>
       as_aux_lemma=>
        obtain⟨ZT,rn2,ZU,YO,J4,ab9,HC2⟩:=hcut;clear HC HS6 ht4;have HC:=HC2
        go_upto_region 11 with (fail)
        have g0:=HC.out.2.2.2.2.2.2.cell 0;have g1:=HC.out.2.2.2.2.2.2.cell 1;have g2:=HC.out.2.2.2.2.2.2.cell 2;have g3:=HC.out.2.2.2.2.2.2.cell 3;have g4:=HC.out.2.2.2.2.2.2.cell 4;simp only[CU,CX,CY] at g0 g1 g2 g3 g4;have h5:=(show Sat W _ (sep (aT 91 5 a n c vs) (sep (bH B va (ab9:Int) day fv) (sep (kn J4) A))) from dJ HC.out.2.2.2.2.2.2.forget).gQ (.cells #[.slice ZT rn2 ZU,.int .i64 fo,.int .i64 fn,.slice fi.a fi.n fi.c,.slice fk.a fk.n fk.c] 91);have Aa:=ah (fun (w:World)=>iP w [.slice ZT rn2 ZU,.int .i64 fo,.int .i64 fn,.slice fi.a fi.n fi.c,.slice fk.a fk.n fk.c] 91);have H5:=ah h5;have hrc:kM.rel J4 [.slice ZT rn2 ZU,.int .i64 fo,.int .i64 fn,.slice fi.a fi.n fi.c,.slice fk.a fk.n fk.c] ⟨YO,f⟩:=by
         refine⟨ZT,ZU,[.int .i64 fo,.int .i64 fn,.slice fi.a fi.n fi.c,.slice fk.a fk.n fk.c],by rw[HC.out.1],by rw[←HC.out.1];exact HC.out.2.2.2.1,rF.mono HC.out.2.2.1 HG.out.2.2⟩
        have hone:∀u∈[Value.slice ZT rn2 ZU,.int .i64 fo,.int .i64 fn,.slice fi.a fi.n fi.c,.slice fk.a fk.n fk.c],u.oneCell'=true:=by
         intro u hu;rcases List.mem_cons.1 hu with rfl|hu
         ·rfl
         ·exact IG HG.out.2.2 u hu
        have O5:=ah hrc;have HON:=ah hone;have Vw:n≤2:=by have:=HL.out.1;omega
        clear h5 hrc hone
        go_wp2_with (at_builtin;go_loud (refine aJ rfl _ _ 28 rfl 91 5 88 _ Tryz.underlying28 uT rfl rfl H5.out rfl [.slice ZT rn2 ZU,.int .i64 fo,.int .i64 fn,.slice fi.a fi.n fi.c,.slice fk.a fk.n fk.c] rfl (by simp) (by intro b' hb;cases hb;exact Aa.out _) HON.out (by omega) (by unfold maxLen;omega) ?_))
        intro a' c' w' h6;have H6:=ah h6;clear h6 H5 Aa Vw
        go_wp2
        go_roundw
        case rel=>
         obtain⟨hn,hlen,hle,hrows,hg,hp1,hp2,-⟩:=HL.out;have hq1:=HC.out.2.2.2.2.1;have hq2:=HC.out.2.2.2.2.2.1;refine⟨3,a',n+1,c',vs++[.slice ZT rn2 ZU,.int .i64 fo,.int .i64 fn,.slice fi.a fi.n fi.c,.slice fk.a fk.n fk.c],cls++[⟨YO,f⟩],J4,ab9,rfl,rfl,by omega,ah ⟨by omega,by simp[hlen],eG hle (eG HG.out.2.1 HC.out.2.2.1),mW ((kM.rows 5).mono (eG HG.out.2.1 HC.out.2.2.1) hrows) O5.out rfl,hg.snoc HG.out.1 (by rw[hlen];exact HC.out.2.1),by omega,by omega,H6.out⟩⟩
        case measure=>simp[intOf]
  ·as_aux_lemma=>
   have hxe:x=m:=by omega
   have hltz:¬(x:Int)<(m:Int):=by omega
   have yF:=ah hxe;clear hxe hlt hxm ab2
   go_wp2
   go_ret
   obtain⟨hn,hlen,hle,hrows,hg,hp1,hp2,hS⟩:=HL.out;have hsw:=hS.eX;obtain⟨J',hle',hJ',h9⟩:=(show Sat W wr (sep (RU a vs) (sep (kn J) (sep (bH B va (pos:Int) day fv) A))) from dJ hS.fQ).learn;have hm:=HM.out;have hxe:=yF.out;have hrel:(kM.slice 5).rel J' [.slice a n c] cls:=⟨a,c,vs,by rw[hn,hlen],by rw[hlen,←hn];exact hsw,hJ',(kM.rows 5).mono hle' hrows⟩
   refine⟨cls,a,n,c,rfl,⟨by omega,by omega,hg⟩,J',eG hle hle',hrel,pos,hp1,by omega,h9.p1⟩
end Go.Proofs.YthfmaclnccdcbaaGreatDoor

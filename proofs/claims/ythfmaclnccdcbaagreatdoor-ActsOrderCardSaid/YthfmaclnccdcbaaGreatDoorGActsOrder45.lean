/- Part of a proof. -/
import Derived.Test.YthfmaclnccdcbaaGreatDoorGActsOrder28
import Derived.Test.YthfmaclnccdcbaaGreatDoorGActsOrder38
import Derived.Test.YthfmaclnccdcbaaGreatDoorGActsOrder44
namespace PA
open Go Go.RowKit
theorem wo.days {N:Nat} {x:Pa} (h:wo N x) {d n:Int} (hd:iK d) (hn:iK n):wo N {x with d:=d,n:=n}:=by
 obtain⟨n1,n2,n3,n4,n5,n6,n7,n8,n9,n10,n11⟩:=(jF x).1 h.ns;exact⟨(jF _).2 ⟨n1,hd,hn,n4,n5,n6,n7,n8,n9,n10,n11⟩,h.td,h.tn,h.tc,h.cl,h.en,h.ea,h.fx⟩
theorem kX.days {I:Mem} {z:Ac} {x:Pa} (h:kX I z x) (d n:Int):kX I {z with d:=d,n:=n} {x with d:=d,n:=n}:=
 ⟨h.k,rfl,rfl,h.f,h.o,h.p,h.q,h.u,h.m,h.sn,h.sd,h.td,h.tc,h.cl,h.ea,h.fx⟩
end PA
namespace Go.Proofs.YthfmaclnccdcbaaGreatDoor
open Go.RowKit PA
theorem Xp {W w:World} {A:aC} (z:Ac) (h:Sat W w A) (cs:Array Value) (hs:cs.size=19):∃w',Sem.run Tryz.prog (LJ (.pointer (some ⟨w.heap.size,0,none⟩)) (.agg z.cells.toArray)) (w.alloc (.cells cs 36))=.ok () w'∧Sat W w' (sep (blk w.heap.size (.cells z.cells.toArray 36 (0,0))) A):=by
 have h1:=h.alloc (.cells cs 36);exact⟨_,bU h1.aO hs z,h1.setRow _⟩
def slR (x:Value) (lo hi mx:Option Value):Sem Value:=Instr.slice 23 x lo hi mx
theorem OL (x:Value) (lo hi mx:Option Value):Instr.slice 23 x lo hi mx=slR x lo hi mx:=rfl
theorem Ei {J:Mem} {a:Option Addr} {n c i:Nat} {xs:List Ac} {z:Ac} (hn:n=xs.length) (hc:n≤c) (hca:gY a (dA xs) J) (hz:xs[i]?=some z) (iz:Int) (hiz:iz=(i:Int)+1):
 ∃a' d,(∀w,(slR (.slice a n c) (some (.int .i64 (i:Int))) (some (.int .i64 iz)) none).run Tryz.prog w=.ok (.slice a' 1 d) w)∧gY a' (dA [z]) J:=by
 subst hiz;have hu:=Tryz.underlying23;obtain⟨hi,rfl⟩:=List.getElem?_eq_some_iff.1 hz;have hi2:i<n:=by omega
 unfold slR;refine⟨a.map (·.add (i*19)),c-i,fun w=>?_,?_⟩
 ·have hne:¬c=i:=by omega
  have e:((i:Int)+1)=((i+1:Nat):Int):=by omega
  rw[e];simp[Instr.slice,Instr.sliceBounds,Instr.sliceBound,go_sem];rw[if_pos ⟨by omega,by omega⟩,if_neg hne]
 ·have hne:dA xs≠[]:=fun e=>by
   have h1:=congrArg List.length e;rw[jY,List.length_nil] at h1;omega
  rcases hca with h|⟨b,o,cs,t,f,h1,h2,h3⟩
  ·exact absurd h hne
  ·subst h1
   refine .inr ⟨b,o+i*19,cs,t,f,?_,h2,fun j u hj=>?_⟩
   ·simp only[Option.map_some,Option.some.injEq]
    unfold Addr.add;split<;>simp_all
   ·have hjl:j<19:=by
     have:=(List.getElem?_eq_some_iff.1 hj).1;rw[jY] at this;simpa using this
    have h4:=h3 (i*19+j) u (by
     rw[Bl xs i hi j hjl];simpa[dA] using hj)
    rwa [←Nat.add_assoc] at h4
attribute [local go_sem ↓] bW dB aY OL o8
set_option maxRecDepth 100000 in
set_option maxHeartbeats 16000000 in
theorem actsOrder_walk (a0:Option Addr) (len0 cap0:Nat) (z0:List Int) (a1 a2 a3:Int) (w:World) (hW:WholeOK w)
 (w0:XP w a0 len0 cap0 z0) (w1:(Lit.int .i64 a1).wf=true) (w2:(Lit.int .i64 a2).wf=true) (w3:(Lit.int .i64 a3).wf=true):
 Calls Tryz.prog 4 #[.slice a0 len0 cap0,.int .i64 a1,.int .i64 a2,.int .i64 a3] w fun e w'=>e=.returned (.bool true)∧Below w.heap.size w w':=by
 obtain⟨l,rfl,hr0,h64⟩:=argI w0;have abU:=Ef (.slice a0 l.length cap0) l 12 (by omega) ⟨⟨a0,cap0,rfl⟩,hr0,h64⟩ (Sat.Xq w);have J7:=ah (KH _ a1 a2 a3 (qg w1) (qg w2) (qg w3) abU);have HW:Hid (jv w):=ah hW;have H3:=ah (qg w3);obtain⟨ll,hll⟩:=aB (l.length);rw[←hll] at J7 ⊢;clear hr0 h64 w0 w1 w2 w3 abU hll hW
 go_enter Tryz.func4,Tryz.ntmps4
 go_wp2_with fail
 refine J7.out.mono ?_;rintro e w1 ⟨a,b,n,c,c2,Ls,Ms,J,rfl,hn,hm,Ue,-,hle,hsL,-,hsM,h1⟩;have hn63:(n:Int)≤12:=by omega
 have hmz:b=none→n=0:=fun e=>by have:=h1.p1.eX;have h2:=this.2.2 e;have:=this.1;omega
 have jX:=ah (KW h1.p1);have HM:Hid ((dA (Ms.map (·.1))).length=n*19∧(b=none→n=0)):=ah ⟨by rw[jY,List.length_map,←hm],hmz⟩;have H1:=ah h1;have HL:Hid (n+n=(Ls++Ms).length∧Jr J 4 (Ls++Ms)):=ah ⟨by rw[dF];omega,(hsL.mono (Mem.le_refl _) (by omega)).append hsM⟩;clear hn hm Ue hle hsL hsM h1 hmz J7
 go_upto_region 2 with (fail)
 go_wp2_with (at_builtin;refine aJ rfl _ _ 23 rfl 36 19 248 _ Tryz.underlying23 uS rfl rfl H1.out rfl (dA (Ms.map (·.1))) HM.out.1 HM.out.2 jX.out (Js _) (by omega) (by unfold maxLen;omega) ?_)
 intro a3' c3 w2 hS2;have hS3:Sat w w2 (sep (aT 36 19 a3' (n+n) c3 (dA ((Ls++Ms).map (·.1)))) (sep (kn J) emp)):=by
  rw[oO,iW];exact hS2.p1.drop
 obtain⟨Ns,hNs⟩:=aB (Ls++Ms);obtain⟨m,hm⟩:=aB (n+n);rw[←hNs,←hm] at hS3;have HN:Hid (m=Ns.length∧Jr J 4 Ns):=ah ⟨by rw[hm,hNs];exact HL.out.1,by rw[hNs];exact HL.out.2⟩;have hm63:(m:Int)≤24:=by omega
 have H2:=ah hS3;rw[←hm];clear hS2 hS3 hNs hm H1 HM jX HL hn63
 go_upto_if 30 with (fail)
 go_cut [9,11] from 30 to 49 (fun v9 _ wx=>∃(a:Option Addr) (m' c':Nat) (Ns:List (Ac×Pa)) (J':Mem),v9=.slice a m' c'∧Hid (m'=Ns.length∧m'≤25∧Jr J' 8 Ns)∧Sat w wx (sep (aT 36 19 a m' c' (dA (Ns.map (·.1)))) (sep (kn J') emp)))
 case first=>
  as_aux_lemma=>
  by_cases m0:m=0
  ·have hz:¬(0:Int)<(m:Int):=by omega
   clear m0
   go_wp2
   go_meet
   case rel=>exact⟨a3',m,c3,Ns,J,rfl,ah ⟨HN.out.1,by omega,HN.out.2.mono (Mem.le_refl _) (by omega)⟩,H2.out⟩
  ·have hz:(0:Int)<(m:Int):=by omega
   have har:=jJ a3 (m:Int) w2 H3.out.1 H3.out.2 (by omega) (by omega);obtain⟨k,hk⟩:∃k:Nat,fV a3 (m:Int)=(k:Int):=⟨(fV a3 m).toNat,by have:=iY a3 m (by omega);omega⟩
   have hkm:k<m:=by have:=iY a3 m (by omega);omega
   rw[hk] at har;have hkz:(k:Int)<(m:Int):=by omega
   have Zp:=fun w'=>jJ a3 60 w' H3.out.1 H3.out.2 (by omega) (by omega)
   have hrb:=iY a3 60 (by omega);obtain⟨r,hr⟩:=aB (fV a3 60);rw[←hr] at Zp hrb;obtain⟨g,tl,rfl,hc1,hc2,hc3,h3⟩:=KU (by rw[List.length_map,←HN.out.1]) (by omega) H2.out;obtain⟨f,hf⟩:∃f:Nat→Ac,f=fun i=>(Ns.map (·.1)).getD i default:=⟨_,rfl⟩
   rw[←hf] at h3;obtain⟨p,hp⟩:∃p,Ns[k]?=some p:=⟨_,List.getElem?_eq_getElem (by have:=HN.out.1;omega)⟩
   obtain⟨q,hq⟩:∃q,Ns[0]?=some q:=⟨_,List.getElem?_eq_getElem (by have:=HN.out.1;omega)⟩
   have hfk:f k=p.1:=by
    rw[hf];simp only;rw[List.getD_eq_getElem?_getD,List.getElem?_map,hp];rfl
   have hf0:f 0=q.1:=by
    rw[hf];simp only;rw[List.getD_eq_getElem?_getD,List.getElem?_map,hq];rfl
   obtain⟨z,x⟩:=p;obtain⟨hA,hs⟩:=HN.out.2 _ (List.mem_of_getElem? hp);obtain⟨hA0,hs0⟩:=HN.out.2 _ (List.mem_of_getElem? hq);dsimp only at hA hs hfk;have abA:iK q.1.d:=by
    rw[hA0.d];exact ((jF q.2).1 hs0.ns).2.1
   have hld:=Jw h3 k hkm;rw[hfk] at hld;have abB:∀w' R,Sat w w' (sep (Ad g m f tl) R)→w'.cell? ⟨g,1,none⟩=some (.int .i64 q.1.d):=fun w' R h'=>by
    have h5:=Sat.cell (show Sat w w' (sep (blk g (.cells (dA ((List.range m).map f)++tl).toArray 36 (0,0))) R) from h') 1;have h6:(dA ((List.range m).map f))[1]?=some (.int .i64 q.1.d):=by
     rw[show (1:Nat)=0*19+1 from rfl,Bl _ 0 (by rw[List.length_map,List.length_range];omega) 1 (by omega),List.getElem_map,List.getElem_range,hf0];rfl
    rw[h5,List.getElem?_toArray,List.getElem?_append_left (List.getElem?_eq_some_iff.1 h6).1,h6]
   obtain⟨w4,hst,h4⟩:=Xp z h3 #[.int .i64 0,.int .i64 0,.int .i64 0,.int .i64 0,.int .i64 0,.int .i64 0,.int .i64 0,.int .i64 0,.int .i64 0,.int .i64 0,.int .i64 0,.slice none 0 0,.slice none 0 0,.slice none 0 0,.slice none 0 0,.int .i64 0,.int .i64 0,.slice none 0 0,.slice none 0 0] rfl;have YW:=ah har;have h4':Sat w w4 (sep (blk w2.heap.size (.cells z.cells.toArray 36 (0,0))) (sep (Ad g m f tl) (sep (kn J) emp))):=h4;have e4:=au h4' 2 _ rfl;have k4:=e4.1;have f4:=e4.2;have h5:Sat w (w4.setCell ⟨w2.heap.size,2,none⟩ (.int .i64 r)) (sep (blk w2.heap.size (.cells ({z with n:=r}:Ac).cells.toArray 36 (0,0))) (sep (Ad g m f tl) (sep (kn J) emp))):=h4'.setCell 2 (.int .i64 r);obtain⟨w5,hw5⟩:=aB (w4.setCell ⟨w2.heap.size,2,none⟩ (.int .i64 r));rw[←hw5] at h5;have e5:=au h5 1 _ rfl;have k5:=e5.1;have f5:=e5.2;have d5:=abB w5 _ h5.p1;have h6:Sat w (w5.setCell ⟨w2.heap.size,1,none⟩ (.int .i64 q.1.d)) (sep (blk w2.heap.size (.cells ({z with d:=q.1.d,n:=r}:Ac).cells.toArray 36 (0,0))) (sep (Ad g m f tl) (sep (kn J) emp))):=h5.setCell 1 (.int .i64 q.1.d);obtain⟨w6,hw6⟩:=aB (w5.setCell ⟨w2.heap.size,1,none⟩ (.int .i64 q.1.d));rw[←hw6] at h6;obtain⟨z',hz'⟩:∃z':Ac,z'={z with d:=q.1.d,n:=r}:=⟨_,rfl⟩
   rw[←hz'] at h6;have hl6:=jo (fun i v hv=>(au h6 i v hv).1);have hbs:=X7 z' w6;have h7:=(Jy hc1 hc2 hc3 h6.p1).p1.drop.alloc (.cells z'.cells.toArray 36);obtain⟨M,hM⟩:=aB (w6.heap.size);obtain⟨w7,hw7⟩:=aB (w6.alloc (.cells z'.cells.toArray 36));rw[←hM,←hw7] at hbs h7;have hsrc:∀b',some (⟨M,0,none⟩:Addr)=some b'→∀j u,z'.cells[j]?=some u→w7.cell? (b'.add j)=some u:=by
    intro b' hb j u hu;cases hb;rw[show (⟨M,0,none⟩:Addr).add j=⟨M,j,none⟩ by unfold Addr.add;split<;>simp_all];exact (au h7 j u hu).1
   have hfe:dA ((List.range m).map f)=dA (Ns.map (·.1)):=by
    rw[hf];have:=Dp (Ns.map (·.1));rw[List.length_map,←HN.out.1] at this;rw[this]
   rw[hfe] at h7;have jX:=ah hsrc;have Xy:=ah h7.p1;obtain⟨x',hx'⟩:∃x':Pa,x'={x with d:=q.1.d,n:=r}:=⟨_,rfl⟩
   have HZN:Hid (Jr J 8 (Ns++[(z',x')])∧m+1=(Ns++[(z',x')]).length∧dA ((Ns++[(z',x')]).map (·.1))=dA (Ns.map (·.1))++z'.cells):=ah ⟨by
    refine (HN.out.2.mono (Mem.le_refl _) (by omega)).append fun p hp=>?_
    rw[List.mem_singleton.1 hp];rw[hx',hz'];exact⟨hA.days _ _,(hs.days abA ⟨by omega,by omega⟩).mono (by omega)⟩,by rw[dF,List.length_singleton,←HN.out.1],by rw[oO,iW];simp[dA]⟩
   have acV:=ah (Zp w4);have EJ:=ah (And.intro hw5 (And.intro hw6 hw7));clear har Zp m0 e4 e5 h4 h4' h5 h6 h7 hM hsrc abB hf hp hq hfk hf0 hA hs hA0 hs0 abA hk hrb hr hfe hz' hx' hw5 hw6 hw7 h3 hc1 hc2 hc3 hkm H2
   go_upto_region 4 with (fail)
   go_wp2_with fail
   refine YW.out.mono ?_;rintro e w3 ⟨rfl,rfl⟩;clear YW
   go_upto_region 5 with (fail)
   go_wp2_with fail
   refine acV.out.mono ?_;rintro e w8 ⟨rfl,rfl⟩
   go_upto_region 6 with (fail)
   rw[←EJ.out.1]
   go_upto_region 7 with (fail)
   rw[←EJ.out.2.1]
   go_wp2_with (at_builtin;((try rw[←EJ.out.2.2]);refine aJ rfl _ _ 23 rfl 36 19 248 _ Tryz.underlying23 uS rfl rfl Xy.out rfl z'.cells rfl (by simp) jX.out z'.one (by omega) (by unfold maxLen;omega) ?_))
   intro a6 c6 w9 h9;have H9:Hid (Sat w w9 (sep (aT 36 19 a6 (m+1) c6 (dA ((Ns++[(z',x')]).map (·.1)))) (sep (kn J) emp))):=ah (by
    rw[HZN.out.2.2];exact h9.p1.drop)
   clear h9 Xy jX hbs hl6 hst k4 f4 k5 f5 d5
   go_wp2
   go_meet
   case rel=>exact⟨a6,m+1,c6,_,J,rfl,ah ⟨HZN.out.2.1,by omega,HZN.out.1⟩,H9.out⟩
 clear H2 HN hm63;obtain⟨az,mm,cc,Zs,J2,rfl,HZ0,hS⟩:=hcut;have hsw:=hS.eX;obtain⟨J1,hle1,aby,hS1⟩:=hS.fQ.learn;have HZ:Hid (mm=Zs.length∧mm≤cc∧gY az (dA (Zs.map (·.1))) J1∧Jr J1 8 Zs):=ah ⟨HZ0.out.1,hsw.1,aby,HZ0.out.2.2.mono hle1 (Nat.le_refl _)⟩;have hm63:(mm:Int)≤25:=by have:=HZ0.out.2.1;omega
 have H1:=ah hS1;have HCM:Hid (∀p q,p∈Zs→q∈Zs→∀w' K,Mem.le J1 K→Sat w w' (sep (kn K) emp)→Calls Tryz.prog 21 #[.agg p.1.cells.toArray,.agg q.1.cells.toArray] w' fun e w''=>∃K2,e=.returned (.int .i64 (o9 p.2 q.2))∧Mem.le K K2∧Sat w w'' (sep (kn K2) emp)):=ah fun p q hp hq w' K hl h'=>by
  obtain⟨p1,p2⟩:=HZ.out.2.2.2 p hp;obtain⟨q1,q2⟩:=HZ.out.2.2.2 q hq;exact tZ HW.out p.1 q.1 p.2 q.2 (p1.mono hl) p2.szM (p2.enc (by omega)) (q1.mono hl) q2.szM (q2.enc (by omega)) h'
 have HCR:Hid (∀p q,p∈Zs→q∈Zs→∀w' K,Mem.le J1 K→Sat w w' (sep (kn K) emp)→Calls Tryz.prog 22 #[.agg p.1.cells.toArray,.agg q.1.cells.toArray] w' fun e w''=>∃K2,e=.returned (.int .i64 (o9 p.2 q.2))∧Mem.le K K2∧Sat w w'' (sep (kn K2) emp)):=ah fun p q hp hq w' K hl h'=>by
  obtain⟨p1,p2⟩:=HZ.out.2.2.2 p hp;obtain⟨q1,q2⟩:=HZ.out.2.2.2 q hq;exact BR p.1 q.1 p.2 q.2 (p1.mono hl) p2.szA (p2.enc (by omega)) (q1.mono hl) q2.szA (q2.enc (by omega)) h'
 have sG:Hid (∀p,p∈Zs→∀w' K,Mem.le J1 K→Sat w w' (sep (kn K) emp)→Calls Tryz.prog 18 #[.agg p.1.cells.toArray] w' fun e w''=>∃K2,e=.returned (.int .i64 (if aZ p.2=true then 0 else 1))∧Mem.le K K2∧Sat w w'' (sep (kn K2) emp)):=ah fun p hp w' K hl h'=>by
  obtain⟨p1,p2⟩:=HZ.out.2.2.2 p hp;exact yu p.1 p.2 (p1.mono hl) p2.szA h'
 clear HZ0 hS hsw hle1 aby hS1
 go_upto_region 8 with (fail)
 go_wp2_with fail
 go_loopw [12] (fun kv wr=>∃(i:Nat) (K:Mem),kv=.int .i64 i∧i≤mm∧Hid (Mem.le J1 K)∧Sat w wr (sep (kn K) emp)) (fun kv _=>mm-(intOf kv).toNat)
 case atStart=>exact⟨0,J1,rfl,by omega,ah (Mem.le_refl _),H1.out⟩
 case round=>
  obtain⟨i,K,rfl,hi,HK,hS⟩:=hrel;clear H1
  by_cases hlt:i<mm
  ·as_aux_lemma=>
   have hltz:(i:Int)<(mm:Int):=by omega
   obtain⟨p,hp⟩:∃p,Zs[i]?=some p:=⟨_,List.getElem?_eq_getElem (by have:=HZ.out.1;omega)⟩
   obtain⟨b0,o0,hab,hld⟩:=Jt HZ.out.2.2.1 (fun e=>by
    have h1:=congrArg List.length e;rw[List.length_map,List.length_nil,←HZ.out.1] at h1;omega)
   have RJ:Hid (∀(j:Nat) (r:Ac×Pa),Zs[j]?=some r→∀w' K,Mem.le J1 K→Sat w w' (sep (kn K) emp)→Sem.run Tryz.prog (jA (.pointer (some ⟨b0,o0+j*19,none⟩))) w'=.ok (.agg r.1.cells.toArray) w'):=ah fun j r hr w' K hl h'=>by
    obtain⟨hj,e⟩:=List.getElem?_eq_some_iff.1 hr;have h1:=hld w' (fun g o hg=>h'.ext g o (hl g o hg)) j (by rw[List.length_map];exact hj)
    rwa [List.getElem_map,e] at h1
   have HP:=ah (And.intro hp (And.intro (List.mem_of_getElem? hp) hlt));have HS:=ah hS;subst hab;clear hp hld hlt hi hS
   go_upto_region 11 with (fail)
   go_wp2_with fail
   go_loopw [13] (fun kv wr=>∃(k:Nat) (K:Mem),kv=.int .i64 k∧k≤mm∧Hid (Mem.le J1 K)∧Sat w wr (sep (kn K) emp)) (fun kv _=>mm-(intOf kv).toNat)
   case atStart=>exact⟨0,K,rfl,by omega,HK,HS.out⟩
   case round=>
    obtain⟨k,K0,rfl,hk,VG,hS⟩:=hrel;clear HS
    by_cases hkt:k<mm
    ·as_aux_lemma=>
     have adV:(k:Int)<(mm:Int):=by omega
     obtain⟨q,hq⟩:∃q,Zs[k]?=some q:=⟨_,List.getElem?_eq_getElem (by have:=HZ.out.1;omega)⟩
     have HQ:=ah (And.intro hq (And.intro (List.mem_of_getElem? hq) hkt));obtain⟨cz,hcz⟩:=aB (o9 p.2 q.2);obtain⟨ck,hck⟩:=aB (o9 q.2 p.2);have hneg:ck=-cz:=by rw[hck,hcz];exact BP.flip _ _
     have hunit:=QF p.2 q.2;rw[←hcz] at hunit;have hwn:IntKind.i64.wrap (-ck)=cz:=by rw[hneg,Int.neg_neg];exact IntWalk.i64_in _ (by omega)
     have HCZ:=ah (And.intro hcz hck);have hd:=hS.drew;obtain⟨wd,hwd⟩:=aB (wr.drew);rw[←hwd] at hd;have l1:=RJ.out i p HP.out.1 wd K0 VG.out hd;have l2:=RJ.out k q HQ.out.1 wd K0 VG.out hd;have hc1:=HCM.out p q HP.out.2.1 HQ.out.2.1 wd K0 VG.out hd;rw[←hcz] at hc1;have GV:=ah hc1;have oD:=ah hwd;have HN:=ah hwn;clear hq hcz hck hneg hunit hwn hd hwd hc1 hkt hk hS
     go_upto_region 14 with (fail)
     refine aG rfl (fun _=>True) [(0,.p),(1,.p),(2,.p),(3,.t),(4,.p),(5,.p),(6,.p),(7,.t),(8,.e false),(9,.p)] (by kernel_rfl) ?_;rw[←oD.out];have hS0:True:=trivial;refine bF ?_
     (refine jH rfl rfl (fun K hK=>?_);go_simp)
     refine GV.out.mono ?_;rintro e w3 ⟨K1,rfl,hle1,h3⟩;have VH:=ah (eG VG.out hle1);have hd:=h3.drew;obtain⟨we,hwe⟩:=aB (w3.drew);rw[←hwe] at hd;clear l1 l2 hle1 h3 GV;refine dQ ?_;clear hK K;refine bF ?_;refine dN ?_;have l1:=RJ.out i p HP.out.1 we K1 VH.out hd;have l2:=RJ.out k q HQ.out.1 we K1 VH.out hd;have hc1:=HCR.out p q HP.out.2.1 HQ.out.2.1 we K1 VH.out hd;rw[←HCZ.out.1] at hc1;have GV:=ah hc1;have HWE:=ah hwe;clear hd hc1 hwe oD
     go_upto_region 15 with (fail)
     have hwn:=HN.out;refine aG rfl (fun _=>True) [(0,.p),(1,.p),(2,.p),(3,.p),(4,.t),(5,.p),(6,.p),(7,.p),(8,.t),(9,.e false),(10,.p),(11,.p),(12,.p),(13,.p),(14,.p),(15,.p),(16,.t),(17,.p),(18,.p),(19,.p),(20,.t),(21,.e false),(22,.p),(23,.p),(24,.p)] (by kernel_rfl) ?_;rw[←HWE.out];refine bF ?_
     (refine jH rfl rfl (fun K hK=>?_);go_simp)
     refine GV.out.mono ?_;rintro e w4 ⟨K2,rfl,hle2,h4⟩;have SA:=ah (eG VH.out hle2);clear l1 l2;have l1:=RJ.out i p HP.out.1 w4 K2 SA.out h4;have l2:=RJ.out k q HQ.out.1 w4 K2 SA.out h4;have hc1:=HCM.out q p HQ.out.2.1 HP.out.2.1 w4 K2 SA.out h4;rw[←HCZ.out.2] at hc1;clear GV;have GV:=ah hc1;clear hle2 h4 hc1;refine dQ ?_;clear hK K;refine bF ?_
     (refine jH rfl rfl (fun K hK=>?_);go_simp)
     refine GV.out.mono ?_;rintro e w5 ⟨K3,rfl,hle3,h5⟩;have Z8:=ah (eG SA.out hle3);have H5:=ah h5;clear l1 l2 hle3 h5 GV;refine dQ ?_;clear hK K;refine bF ?_;refine dN ?_;clear hwn
     go_upto_region 17 with (fail)
     obtain⟨vp,hvp⟩:=aB (aZ p.2);obtain⟨vq,hvq⟩:=aB (aZ q.2);have HVV:=ah (And.intro hvp hvq);clear hvp hvq
     go_cut [15] from 96 to 109 (fun bv wx=>∃K4,bv=.bool (vp&&vq)∧Hid (Mem.le J1 K4)∧Sat w wx (sep (kn K4) emp))
     case first=>
      as_aux_lemma=>
      have hvp:=HVV.out.1;have hvq:=HVV.out.2;obtain⟨ep,hep⟩:∃e:Int,e=if aZ p.2=true then 0 else 1:=⟨_,rfl⟩
      obtain⟨eq,heq⟩:∃e:Int,e=if aZ q.2=true then 0 else 1:=⟨_,rfl⟩
      have l1:=RJ.out i p HP.out.1 w5 K3 Z8.out H5.out;have hv:=sG.out p HP.out.2.1 w5 K3 Z8.out H5.out;rw[←hep] at hv;have HV:=ah hv;rw[←hvp] at hep;rw[←hvq] at heq;have HVQ:Hid (∀w' K,Mem.le J1 K→Sat w w' (sep (kn K) emp)→Calls Tryz.prog 18 #[.agg q.1.cells.toArray] w' fun e w''=>∃K2,e=.returned (.int .i64 eq)∧Mem.le K K2∧Sat w w'' (sep (kn K2) emp)):=ah fun w' K hl h'=>by
       have h1:=sG.out q HQ.out.2.1 w' K hl h';rw[←hvq,←heq] at h1;exact h1
      have HE:=ah (And.intro hep heq);clear hv hvp hvq hep heq HVV
      go_wp2_with fail
      refine HV.out.mono ?_;rintro e w6 ⟨K4,rfl,lN,h6⟩;have SB:=ah (eG Z8.out lN);have H6:=ah h6;clear lN h6 l1 HV;cases vp with
      | false=>
       obtain rfl:ep=1:=HE.out.1
       go_wp2
       go_meet
       case rel=>exact⟨K4,rfl,SB,H6.out⟩
      | true=>
       obtain rfl:ep=0:=HE.out.1;have l2:=RJ.out k q HQ.out.1 w6 K4 SB.out H6.out;have lW:=ah (HVQ.out w6 K4 SB.out H6.out)
       go_wp2_with fail
       refine lW.out.mono ?_;rintro e w7 ⟨K5,rfl,Aj,h7⟩;have Z9:=ah (eG SB.out Aj);have H7:=ah h7;clear Aj h7 l2 lW;cases vq with
       | false=>
        obtain rfl:eq=1:=HE.out.2
        go_wp2
        go_meet
        case rel=>exact⟨K5,rfl,Z9,H7.out⟩
       | true=>
        obtain rfl:eq=0:=HE.out.2
        go_wp2
        go_meet
        case rel=>exact⟨K5,rfl,Z9,H7.out⟩
     clear H5;obtain⟨K4,rfl,SB,h6⟩:=hcut;obtain⟨bb,hbb⟩:=aB ((vp&&vq));rw[←hbb];have xq:=ah hbb;have hd:=h6.drew;obtain⟨wf,hwf⟩:=aB (wc.drew);rw[←hwf] at hd;have H6:=ah hd;have HWF:=ah hwf;clear hbb h6 hd hwf HWE
     go_upto_region 18 with (fail)
     go_cut [126] from 110 to 125 (fun bv wx=>∃K5,bv=.bool false∧Hid (Mem.le J1 K5)∧Sat w wx (sep (kn K5) emp))
     case first=>
      as_aux_lemma=>
      cases bb with
      | false=>
       refine aG rfl (fun _=>True) [(0,.p),(1,.p),(2,.p),(3,.p),(4,.p),(5,.p),(6,.p),(7,.p),(8,.p),(9,.p),(10,.p),(11,.p),(12,.p),(13,.p),(14,.e false),(15,.p),(16,.p)] (by kernel_rfl) ?_;rw[←HWF.out];have hS0:True:=trivial;refine bF ?_
       (refine Qh rfl rfl (fun h=>by first|(cases h;done)|exact hS0) ?_;simp only[Act.put,lsA,lsB,kJ])
       refine bF ?_;refine dN ?_
       go_wp2
       go_meet
       case rel=>exact⟨K4,rfl,SB,H6.out⟩
      | true=>
       have hvv:aZ p.2=true∧aZ q.2=true:=by
        have:=xq.out;rw[HVV.out.1,HVV.out.2] at this;simpa using this.symm
       have hlz:mm=(Zs.map (·.1)).length:=by rw[List.length_map];exact HZ.out.1
       obtain⟨sa,sd,hsl1,hsc1⟩:=Ei hlz HZ.out.2.1 HZ.out.2.2.1 (i:=i) (z:=p.1) (by rw[List.getElem?_map,HP.out.1];rfl) ((i:Int)+1) rfl;obtain⟨ta,td,hsl2,hsc2⟩:=Ei hlz HZ.out.2.1 HZ.out.2.2.1 (i:=k) (z:=q.1) (by rw[List.getElem?_map,HQ.out.1];rfl) ((k:Int)+1) rfl;obtain⟨p1,p2⟩:=HZ.out.2.2.2 p HP.out.2.1;obtain⟨q1,q2⟩:=HZ.out.2.2.2 q HQ.out.2.1;have hsame:=OE sa ta 1 1 sd td [p] [q] rfl rfl (by omega) (by omega) (qK SB.out hsc1) (qK SB.out hsc2) (fun r hr=>by rw[List.mem_singleton.1 hr];exact⟨p1.mono SB.out,p2.szA,p2.enc (by omega)⟩) (fun r hr=>by rw[List.mem_singleton.1 hr];exact⟨q1.mono SB.out,q2.szA,q2.enc (by omega)⟩) H6.out;have hcs:kN [p.2] [q.2]=(cz==0):=by
        rw[←QD hvv.1 hvv.2 (p2.enc (by omega)) (q2.enc (by omega)),←HCZ.out.1];rfl
       obtain⟨bz,hbz⟩:∃b,(cz==0)=b:=⟨_,rfl⟩
       rw[hbz] at hcs;simp only[List.map_cons,List.map_nil] at hsame;rw[hcs] at hsame;have XK:=ah hsame;have hw1:IntKind.i64.wrap ((i:Int)+1)=(i:Int)+1:=IntWalk.i64_in _ (by omega);have hw2:IntKind.i64.wrap ((k:Int)+1)=(k:Int)+1:=IntWalk.i64_in _ (by omega);clear hvv hlz hsc1 hsc2 p1 p2 q1 q2 hsame hcs;refine aG rfl (fun _=>True) [(0,.p),(1,.p),(2,.p),(3,.p),(4,.p),(5,.p),(6,.p),(7,.p),(8,.p),(9,.p),(10,.p),(11,.p),(12,.p),(13,.p),(14,.e false),(15,.p),(16,.p)] (by kernel_rfl) ?_;rw[←HWF.out];have hS0:True:=trivial;refine bF ?_
       (refine jH rfl rfl (fun K hK=>?_);go_simp)
       refine XK.out.mono ?_;rintro e w7 ⟨K5,rfl,Aj,h7⟩;have Z9:=ah (eG SB.out Aj);have H7:=ah h7;clear Aj h7 XK;refine dQ ?_;clear hK K;refine bF ?_;refine dN ?_
       go_wp2
       go_meet
       case rel=>exact⟨K5,rfl,Z9,H7.out⟩
     obtain⟨K5,rfl,Z9,h7⟩:=hcut;have H7:=ah h7;clear h7 H6 HWF xq
     go_upto_region 20 with (fail)
     go_wp2_with fail
     go_loopw [16] (fun kv wr=>∃(j:Nat) (K:Mem),kv=.int .i64 j∧j≤mm∧Hid (Mem.le J1 K)∧Sat w wr (sep (kn K) emp)) (fun kv _=>mm-(intOf kv).toNat)
     case atStart=>exact⟨0,K5,rfl,by omega,Z9,H7.out⟩
     case round=>
      obtain⟨j,K6,rfl,hj,Y3,hS⟩:=hrel;clear H7
      by_cases hjt:j<mm
      ·have adU:(j:Int)<(mm:Int):=by omega
       by_cases hj8:j<8
       ·as_aux_lemma=>
        have adT:(j:Int)<8:=by omega
        obtain⟨r,hr⟩:∃r,Zs[j]?=some r:=⟨_,List.getElem?_eq_getElem (by have:=HZ.out.1;omega)⟩
        have HR:=ah (And.intro hr (And.intro (List.mem_of_getElem? hr) hjt));obtain⟨d1,hd1⟩:∃b,decide (cz≤0)=b:=⟨_,rfl⟩
        obtain⟨ckj,Zv⟩:=aB (o9 q.2 r.2);obtain⟨cij,Zu⟩:=aB (o9 p.2 r.2);obtain⟨d2,hd2⟩:∃b,decide (ckj≤0)=b:=⟨_,rfl⟩
        have HTR:Hid (d1=true→d2=true→decide (0<cij)=false):=ah fun e1 e2=>by
         rw[e1] at hd1;rw[e2] at hd2;have t1:=of_decide_eq_true hd1;have t2:=of_decide_eq_true hd2;rw[HCZ.out.1] at t1;rw[Zv] at t2;have:=BP.trans p.2 q.2 r.2 t1 t2;exact decide_eq_false (by rw[Zu];omega)
        have HCC:=ah (And.intro Zv Zu);have hd:=hS.drew;obtain⟨wg,hwg⟩:=aB (wr.drew);rw[←hwg] at hd;have HWG:=ah hwg;have H8:=ah hd;clear hr Zv Zu hd hwg hjt hj hj8 hS
        go_upto_region 23 with (fail)
        go_cut [162] from 137 to 161 (fun bv wx=>∃K5,bv=.bool false∧Hid (Mem.le J1 K5)∧Sat w wx (sep (kn K5) emp))
        case first=>
         as_aux_lemma=>
         cases d1 with
         | false=>
          refine aG rfl (fun _=>True) [(0,.p),(1,.p),(2,.p),(3,.p),(4,.p),(5,.p),(6,.t),(7,.p),(8,.p),(9,.p),(10,.t),(11,.e false),(12,.p),(13,.p),(14,.p),(15,.p),(16,.p),(17,.p),(18,.t),(19,.p),(20,.p),(21,.p),(22,.t),(23,.e false),(24,.p),(25,.p)] (by kernel_rfl) ?_;rw[←HWG.out];have hS0:True:=trivial;refine bF ?_
          (refine Qh rfl rfl (fun h=>by first|(cases h;done)|exact hS0) ?_;simp only[Act.put,lsA,lsB,kJ])
          refine bF ?_
          (refine Qh rfl rfl (fun h=>by first|(cases h;done)|exact hS0) ?_;simp only[Act.put,lsA,lsB,kJ])
          refine bF ?_;refine dN ?_
          go_wp2
          go_meet
          case rel=>exact⟨K6,rfl,Y3,H8.out⟩
         | true=>
          have l1:=RJ.out k q HQ.out.1 wg K6 Y3.out H8.out;have l2:=RJ.out j r HR.out.1 wg K6 Y3.out H8.out;have hc1:=HCM.out q r HQ.out.2.1 HR.out.2.1 wg K6 Y3.out H8.out;rw[←HCC.out.1] at hc1;have GV:=ah hc1;clear hc1;refine aG rfl (fun _=>True) [(0,.p),(1,.p),(2,.p),(3,.p),(4,.p),(5,.p),(6,.t),(7,.p),(8,.p),(9,.p),(10,.t),(11,.e false),(12,.p),(13,.p),(14,.p),(15,.p),(16,.p),(17,.p),(18,.t),(19,.p),(20,.p),(21,.p),(22,.t),(23,.e false),(24,.p),(25,.p)] (by kernel_rfl) ?_;rw[←HWG.out];have hS0:True:=trivial;refine bF ?_
          (refine jH rfl rfl (fun K hK=>?_);go_simp)
          refine GV.out.mono ?_;rintro e w9 ⟨K7,rfl,Uc,h9⟩;have HK7:=ah (eG Y3.out Uc);have H9:=ah h9;clear Uc h9 l1 l2 GV;refine dQ ?_;clear hK K;cases d2 with
          | false=>
           refine bF ?_
           (refine Qh rfl rfl (fun h=>by first|(cases h;done)|exact hS0) ?_;simp only[Act.put,lsA,lsB,kJ])
           refine bF ?_;refine dN ?_
           go_wp2
           go_meet
           case rel=>exact⟨K7,rfl,HK7,H9.out⟩
          | true=>
           have l1:=RJ.out i p HP.out.1 w9 K7 HK7.out H9.out;have l2:=RJ.out j r HR.out.1 w9 K7 HK7.out H9.out;have hc1:=HCM.out p r HP.out.2.1 HR.out.2.1 w9 K7 HK7.out H9.out;rw[←HCC.out.2] at hc1;have GV:=ah hc1;have htr:=HTR.out rfl rfl;clear hc1;refine bF ?_
           (refine jH rfl rfl (fun K hK=>?_);go_simp)
           refine GV.out.mono ?_;rintro e w10 ⟨K8,rfl,abJ,h10⟩;have HK8:=ah (eG HK7.out abJ);have Fh:=ah h10;clear abJ h10 l1 l2 GV;refine dQ ?_;clear hK K;refine bF ?_;refine dN ?_
           go_wp2
           go_meet
           case rel=>exact⟨K8,rfl,HK8,Fh.out⟩
        obtain⟨K9,rfl,HK9,h11⟩:=hcut;have Si:=ah h11;clear h11 H8 HWG
        go_wp2
        go_roundw
        case rel=>exact⟨j+1,K9,by go_num,by have:=HR.out.2.2;omega,HK9,Si.out⟩
        case measure=>simp[intOf];have:=HR.out.2.2;omega
       ·have adT:¬(j:Int)<8:=by omega
        have HF:=ah hS;clear hS hj hjt hj8
        go_wp2
        go_roundw
        case rel=>exact⟨k+1,K6,by go_num,by have:=HQ.out.2.2;omega,Y3,HF.out⟩
        case measure=>simp[intOf];have:=HQ.out.2.2;omega
      ·have adU:¬(j:Int)<(mm:Int):=by omega
       have HF:=ah hS;clear hS hj hjt
       go_wp2
       go_roundw
       case rel=>exact⟨k+1,K6,by go_num,by have:=HQ.out.2.2;omega,Y3,HF.out⟩
       case measure=>simp[intOf];have:=HQ.out.2.2;omega
    ·have adV:¬(k:Int)<(mm:Int):=by omega
     have HF:=ah hS;clear hS hk hkt
     go_wp2
     go_roundw
     case rel=>exact⟨i+1,K0,by go_num,by have:=HP.out.2.2;omega,VG,HF.out⟩
     case measure=>simp[intOf];have:=HP.out.2.2;omega
  ·obtain rfl:i=mm:=by omega
   have HLV:=ah (Ij HW.out hS);clear hS hlt hi
   go_wp2_with fail
   refine HLV.out.mono ?_;rintro e w20 ⟨rfl,h20⟩;have HBE:=ah h20.below;clear h20 HLV
   go_wp2
   go_ret
   exact⟨rfl,HBE.out⟩
end Go.Proofs.YthfmaclnccdcbaaGreatDoor

/- Part of a proof. -/
import Derived.Test.YthfmaclnccdcbaaGreatDoorGActsOrder10
namespace PA
open Go Go.RowKit
def iQ (b:Bool):Int:=if b=true then 1 else 0
def dH (x:Iv):List Int:=[x.ln,x.ld,x.hn,x.hd,iQ x.lo,iQ x.ho,iQ x.li,iQ x.hi]
def MR (n:Int):Prop:=-9223372036854775808≤n∧n≤9223372036854775807
theorem AV (b:Bool):MR (iQ b):=by cases b<;>exact⟨by decide,by decide⟩
end PA
namespace Go.Proofs.YthfmaclnccdcbaaGreatDoor
open Go.RowKit PA
theorem oQ (b:Bool) (w:World):Calls Tryz.prog 205 #[.bool b] w fun e w'=>e=.returned (.int .i64 (iQ b))∧w=w':=by
 cases b with
 | false=>
  go_enter Tryz.func205,Tryz.ntmps205
  go_wp2
  go_ret
  exact⟨rfl,rfl⟩
 | true=>
  go_enter Tryz.func205,Tryz.ntmps205
  go_wp2
  go_ret
  exact⟨rfl,rfl⟩
theorem KA:(Tryz.prog.info? 3).map (fun i=>(i.zero,i.size,i.bytes))=some (some (.int .i64 0),1,8):=by kernel_rfl
def X6 (n:Nat) (p:Array (Nat×Value)):Sem Value:=Instr.buildSlice 22 n p
theorem sS (n:Nat) (p:Array (Nat×Value)):Instr.buildSlice 22 n p=X6 n p:=rfl
theorem Tq (w:World) (a b c d e f g h:Int):(X6 8 #[(0,.int .i64 a),(1,.int .i64 b),(2,.int .i64 c),(3,.int .i64 d),(4,.int .i64 e),(5,.int .i64 f),(6,.int .i64 g),(7,.int .i64 h)]).run Tryz.prog w=.ok (.slice (some ⟨w.heap.size,0,none⟩) 8 8) (w.alloc (.cells #[.int .i64 a,.int .i64 b,.int .i64 c,.int .i64 d,.int .i64 e,.int .i64 f,.int .i64 g,.int .i64 h] 3)):=by
 obtain⟨i,h1,h2,h3,h4⟩:=info_parts KA;exact run_buildSlice w 22 3 8 _ _ i _ Tryz.underlying22 h1 h2 (by rw[h3];omega) (by rw[h3];omega) (by rw[h3];kernel_rfl)
attribute [local go_sem ↓] sS
set_option maxHeartbeats 2000000 in
theorem D9 {W w:World} {A:aC} (x:Iv) (h64:∀r∈dH x,-9223372036854775808≤r∧r≤9223372036854775807) (h:Sat W w A):
 Calls Tryz.prog 178 #[.agg (FW x)] w fun e w'=>∃a c,e=.returned (.slice a (fO (dH x)).length c)∧Sat W w' (sep (aT 5 1 a (fO (dH x)).length c ((fO (dH x)).map bv)) A):=by
 obtain⟨E,hE⟩:=aB (fO (dH x));rw[←hE];obtain⟨ln,ld,hn,hd,lo,ho,li,hi⟩:=x;have h1:=h.alloc (.cells #[.int .i64 ln,.int .i64 ld,.int .i64 hn,.int .i64 hd,.bool lo,.bool ho,.bool li,.bool hi] 159);obtain⟨B,hB⟩:=aB (w.heap.size);obtain⟨w1,hw1⟩:=aB (w.alloc (.cells #[.int .i64 ln,.int .i64 ld,.int .i64 hn,.int .i64 hd,.bool lo,.bool ho,.bool li,.bool hi] 159));rw[←hB,←hw1] at h1;have HB:=ah (And.intro hB hw1);have h2:=h1.drew;obtain⟨wd,hwd⟩:=aB (w1.drew);rw[←hwd] at h2;have HW:=ah hwd;have HE:=ah hE;have Qj:=ah h64;have c0:wd.cell? ⟨B,0,none⟩=some (.int .i64 ln):=by rw[h2.cell 0];rfl
 have c1:wd.cell? ⟨B,1,none⟩=some (.int .i64 ld):=by rw[h2.cell 1];rfl
 have c2:wd.cell? ⟨B,2,none⟩=some (.int .i64 hn):=by rw[h2.cell 2];rfl
 have c3:wd.cell? ⟨B,3,none⟩=some (.int .i64 hd):=by rw[h2.cell 3];rfl
 have c4:wd.cell? ⟨B,4,none⟩=some (.bool lo):=by rw[h2.cell 4];rfl
 have c5:wd.cell? ⟨B,5,none⟩=some (.bool ho):=by rw[h2.cell 5];rfl
 have c6:wd.cell? ⟨B,6,none⟩=some (.bool li):=by rw[h2.cell 6];rfl
 have c7:wd.cell? ⟨B,7,none⟩=some (.bool hi):=by rw[h2.cell 7];rfl
 have H2:=ah h2.drop;clear h h1 h2 hB hw1 hwd hE h64;unfold FW
 go_enter Tryz.func178,Tryz.ntmps178
 go_upto_region 1 with (fail)
 rw[←HB.out.1,←HB.out.2];refine aG rfl (fun w'=>w'.cell? ⟨B,0,none⟩=some (.int .i64 ln)∧w'.cell? ⟨B,1,none⟩=some (.int .i64 ld)∧w'.cell? ⟨B,2,none⟩=some (.int .i64 hn)∧w'.cell? ⟨B,3,none⟩=some (.int .i64 hd)∧w'.cell? ⟨B,4,none⟩=some (.bool lo)∧w'.cell? ⟨B,5,none⟩=some (.bool ho)∧w'.cell? ⟨B,6,none⟩=some (.bool li)∧w'.cell? ⟨B,7,none⟩=some (.bool hi)) [(0,.p),(1,.p),(2,.s),(3,.p),(4,.p),(5,.s),(6,.p),(7,.p),(8,.s),(9,.p),(10,.p),(11,.s),(12,.p),(13,.t),(15,.p),(16,.s),(18,.p),(19,.s),(21,.p),(22,.s),(14,.e true),(17,.e true),(20,.e true),(23,.e true),(24,.e false),(25,.e false),(26,.p)] (by kernel_rfl) ?_;rw[←HW.out];have hS0:=And.intro c0 (And.intro c1 (And.intro c2 (And.intro c3 (And.intro c4 (And.intro c5 (And.intro c6 c7))))));refine bF ?_
 (refine jH rfl rfl (fun K hK=>?_);go_simp)
 refine (oQ _ _).mono ?_;rintro e w2 ⟨rfl,rfl⟩
 (refine hK _ _ (fun _=>hS0) ?_;clear hK K;(try simp only[Act.put,lsA,lsB,kJ]))
 (refine jH rfl rfl (fun K hK=>?_);go_simp)
 refine (oQ _ _).mono ?_;rintro e w2 ⟨rfl,rfl⟩
 (refine hK _ _ (fun _=>hS0) ?_;clear hK K;(try simp only[Act.put,lsA,lsB,kJ]))
 (refine jH rfl rfl (fun K hK=>?_);go_simp)
 refine (oQ _ _).mono ?_;rintro e w2 ⟨rfl,rfl⟩
 (refine hK _ _ (fun _=>hS0) ?_;clear hK K;(try simp only[Act.put,lsA,lsB,kJ]))
 (refine jH rfl rfl (fun K hK=>?_);go_simp)
 refine (oQ _ _).mono ?_;rintro e w2 ⟨rfl,rfl⟩
 (refine hK _ _ (fun _=>hS0) ?_;clear hK K;(try simp only[Act.put,lsA,lsB,kJ]))
 have hbs:=Tq wd ln ld hn hd (iQ lo) (iQ ho) (iQ li) (iQ hi);have hA:=H2.out.alloc (.cells #[.int .i64 ln,.int .i64 ld,.int .i64 hn,.int .i64 hd,.int .i64 (iQ lo),.int .i64 (iQ ho),.int .i64 (iQ li),.int .i64 (iQ hi)] 3);obtain⟨G,hG⟩:=aB (wd.heap.size);obtain⟨we,hwe⟩:=aB (wd.alloc (.cells #[.int .i64 ln,.int .i64 ld,.int .i64 hn,.int .i64 hd,.int .i64 (iQ lo),.int .i64 (iQ ho),.int .i64 (iQ li),.int .i64 (iQ hi)] 3));rw[←hG,←hwe] at hbs hA;have hcall:=Eb (some ⟨G,0,none⟩) 8 8 (dH ⟨ln,ld,hn,hd,lo,ho,li,hi⟩) rfl (by simp[dH]) Qj.out (fun w' B' hs k r hr=>⟨G,0,rfl,by
  have hc:=hs.p1.cell k;rw[Nat.zero_add,hc]
  match k,hr with
  | 0,hr|1,hr|2,hr|3,hr|4,hr|5,hr|6,hr|7,hr=>simp[dH] at hr;subst hr;rfl
  | k+8,hr=>simp[dH] at hr⟩) hA
 rw[←HE.out] at hcall;have HC:=ah hcall;clear hA hcall hG hwe c0 c1 c2 c3 c4 c5 c6 c7 H2 hS0
 (refine jH rfl rfl (fun K hK=>?_);go_simp)
 refine dQ ?_;clear hK K
 (refine jH rfl rfl (fun K hK=>?_);go_simp)
 refine HC.out.mono ?_;rintro e w3 ⟨a,c,rfl,h3⟩;have H3:=ah h3.p1.drop;clear h3 HC;refine dQ ?_;clear hK K;refine bF ?_;refine dN ?_
 go_wp2
 go_ret
 exact⟨a,c,rfl,H3.out⟩
end Go.Proofs.YthfmaclnccdcbaaGreatDoor
namespace PA
open Go Go.RowKit
def dO (l:List Iv):List UInt8:=(l.map fun x=>fO (dH x)).flatten
mutual
def bZ:Fm→List UInt8
 | .mk o n i k=>PA.encI o++PA.encI n++PA.encI i.length++dO i++PA.encI k.length++eu k
def eu:List Fm→List UInt8
 | []=>[]
 | f::l=>bZ f++eu l
end
theorem JL (l:List Fm) (f:Fm):eu (l++[f])=eu l++bZ f:=by
 induction l with
 | nil=>simp[eu]
 | cons g l ih=>rw[List.cons_append,eu,eu,ih,List.append_assoc]
theorem JM {l:List Fm} {j:Nat} {g:Fm} (h:l[j]?=some g):eu (l.take (j+1))=eu (l.take j)++bZ g:=by
 rw[List.take_add_one,h];exact JL _ _
theorem QH (l:List Fm) (j:Nat):(eu (l.take j)).length≤(eu l).length:=by
 induction l generalizing j with
 | nil=>simp
 | cons g l ih=>
  cases j with
  | zero=>simp[eu]
  | succ j=>rw[List.take_succ_cons,eu,eu,dF,dF];have:=ih j;omega
theorem zL {l:List Iv} {j:Nat} {g:Iv} (h:l[j]?=some g):dO (l.take (j+1))=dO (l.take j)++fO (dH g):=by
 unfold dO;rw[List.take_add_one,h];simp
theorem FN (l:List Iv) (j:Nat):(dO (l.take j)).length≤(dO l).length:=by
 induction l generalizing j with
 | nil=>simp
 | cons g l ih=>
  cases j with
  | zero=>simp[dO]
  | succ j=>
   have:=ih j;unfold dO at this ⊢;rw[List.take_succ_cons,List.map_cons,List.map_cons,List.flatten_cons,List.flatten_cons,dF,dF];omega
mutual
def Fm.n64:Fm→Prop
 | .mk o n i k=>MR o∧MR n∧(∀x∈i,∀r∈PA.dH x,-9223372036854775808≤r∧r≤9223372036854775807)∧Fm.Dx k
def Fm.Dx:List Fm→Prop
 | []=>True
 | f::l=>Fm.n64 f∧Fm.Dx l
end
theorem Fm.KN {l:List Fm} (h:Fm.Dx l) {f:Fm} (hf:f∈l):Fm.n64 f:=by
 induction l with
 | nil=>cases hf
 | cons g l ih=>
  rw[Fm.Dx] at h;rcases List.mem_cons.1 hf with rfl|hf
  ·exact h.1
  ·exact ih h.2 hf
end PA
namespace Go.Proofs.YthfmaclnccdcbaaGreatDoor
open Go.RowKit PA
theorem uvarint_pos (x:Nat):0<(Lib.uvarint x).length:=by
 rcases (show x<128∨128≤x by omega) with h|h
 ·rw[Lib.uvarint_small h];simp
 ·rw[Lib.uvarint_big h];simp
set_option maxHeartbeats 4000000 in
theorem vS {W:World} {I:Mem} (f:Fm):∀(w:World) (A:aC) (p q:Int) (x1:Option Addr) (n1 c1:Nat) (x2:Option Addr) (n2 c2:Nat),rF.rel I [.int .i64 p,.int .i64 q,.slice x1 n1 c1,.slice x2 n2 c2] f→f.n64→(bZ f).length≤268435456→Sat W w (sep (kn I) A) →
 Calls Tryz.prog 139 #[.agg #[.int .i64 p,.int .i64 q,.slice x1 n1 c1,.slice x2 n2 c2]] w fun e w'=>∃a c,e=.returned (.slice a (bZ f).length c)∧Sat W w' (sep (aT 5 1 a (bZ f).length c ((bZ f).map bv)) (sep (kn I) A)):=by
 refine Fm.ind (P:=fun f=>∀(w:World) (A:aC) (p q:Int) (x1:Option Addr) (n1 c1:Nat) (x2:Option Addr) (n2 c2:Nat),rF.rel I [.int .i64 p,.int .i64 q,.slice x1 n1 c1,.slice x2 n2 c2] f→f.n64→(bZ f).length≤268435456→Sat W w (sep (kn I) A) →
  Calls Tryz.prog 139 #[.agg #[.int .i64 p,.int .i64 q,.slice x1 n1 c1,.slice x2 n2 c2]] w fun e w'=>∃a c,e=.returned (.slice a (bZ f).length c)∧Sat W w' (sep (aT 5 1 a (bZ f).length c ((bZ f).map bv)) (sep (kn I) A))) (fun o n i k ih=>?_) f
 intro w A p q x1 n1 c1 x2 n2 c2 hr h64 hlen h;obtain⟨x1',c1',x2',c2',e,hi,hk⟩:=dR.1 hr;simp only[List.cons.injEq,Value.int.injEq,Value.slice.injEq,true_and,and_true] at e;obtain⟨rfl,rfl,⟨rfl,rfl,rfl⟩,⟨rfl,rfl,rfl⟩⟩:=e;rw[Fm.n64] at h64;have h1:=h.alloc (.cells #[.int .i64 p,.int .i64 q,.slice x1 i.length c1,.slice x2 k.length c2] 34);obtain⟨B,hB⟩:=aB (w.heap.size);obtain⟨w1,hw1⟩:=aB (w.alloc (.cells #[.int .i64 p,.int .i64 q,.slice x1 i.length c1,.slice x2 k.length c2] 34));rw[←hB,←hw1] at h1;have HB:=ah (And.intro hB hw1);have h2:=h1.drew;obtain⟨wd,hwd⟩:=aB (w1.drew);rw[←hwd] at h2;have HW:=ah hwd;have tX:=(aI hk).2.2;have Ub:=(aI hi).2.2;have hin:i.length≤268435456:=by
  have key:∀l:List Iv,l.length≤(dO l).length:=by
   intro l
   induction l with
   | nil=>simp
   | cons g l ih=>
    unfold dO at ih ⊢;rw[List.map_cons,List.flatten_cons,dF,List.length_cons];have:1≤(fO (dH g)).length:=by
     unfold fO;rw[dF];have:0<(Lib.uvarint (dH g).length).length:=List.length_pos_iff.2 (by rw[Lib.uvarint_small (by simp[dH])];simp);omega
    omega
  have:=key i;rw[bZ] at hlen;simp only[dF] at hlen;omega
 have hkn:k.length≤268435456:=by
  have key:∀l:List Fm,l.length≤(eu l).length:=by
   intro l
   induction l with
   | nil=>simp
   | cons g l ih=>
    rw[eu,dF,List.length_cons];have:1≤(bZ g).length:=by
     obtain⟨a,b,c,d⟩:=g;rw[bZ];simp only[dF];have:0<(PA.encI a).length:=by unfold PA.encI;exact uvarint_pos _
     omega
    omega
  have:=key k;rw[bZ] at hlen;simp only[dF] at hlen;omega
 obtain⟨E,hE⟩:=aB (bZ (.mk p q i k));rw[←hE] at hlen ⊢;obtain⟨V,hV⟩:∃V:Nat→List UInt8,V=fun j=>PA.encI p++PA.encI q++PA.encI i.length++dO (i.take j):=⟨_,rfl⟩
 obtain⟨D,hD⟩:∃D:Nat→List UInt8,D=fun j=>PA.encI p++PA.encI q++PA.encI i.length++dO i++PA.encI k.length++eu (k.take j):=⟨_,rfl⟩
 have hV0:V 0=PA.encI p++PA.encI q++PA.encI i.length:=by rw[hV];simp[dO]
 have Ai:∀j g,i[j]?=some g→V (j+1)=V j++fO (dH g):=fun j g hg=>by rw[hV];simp only;rw[zL hg];simp only[List.append_assoc]
 have hVd:D 0=V i.length++PA.encI k.length:=by rw[hD,hV];simp[eu]
 have hDs:∀j g,k[j]?=some g→D (j+1)=D j++bZ g:=fun j g hg=>by rw[hD];simp only;rw[JM hg];simp only[List.append_assoc]
 have hDe:D k.length=E:=by rw[hD,hE,bZ];simp
 have hEl:E.length=(PA.encI p).length+(PA.encI q).length+(PA.encI i.length).length+(dO i).length+(PA.encI k.length).length+(eu k).length:=by rw[hE,bZ];simp only[dF]
 have Ah:∀j,(V j).length≤268435456:=fun j=>by rw[hV];simp only[dF];have:=FN i j;omega
 have hDl:∀j,(D j).length≤268435456:=fun j=>by rw[hD];simp only[dF];have:=QH k j;omega
 obtain⟨nk,hnk⟩:=aB (k.length);obtain⟨ni,hni⟩:=aB (i.length);rw[←hni] at hV0 hVd hi Ub hin h2;rw[←hnk] at hVd hDe hk tX hkn h2;simp only[←hni,←hnk] at HB ⊢;obtain⟨X,hX⟩:=aB (sep (blk B (.cells #[.int .i64 p,.int .i64 q,.slice x1 ni c1,.slice x2 nk c2] 34 (0,0))) (sep (kn I) A));have HX:=ah hX;have HC:Hid (∀w' Y,Sat W w' (sep Y X)→w'.cell? ⟨B,0,none⟩=some (.int .i64 p)∧w'.cell? ⟨B,1,none⟩=some (.int .i64 q)∧w'.cell? ⟨B,2,none⟩=some (.slice x1 ni c1)∧w'.cell? ⟨B,3,none⟩=some (.slice x2 nk c2)):=ah fun w' Y h'=>by rw[hX] at h';exact kR h'.drop
 obtain⟨c0,c1',-,-⟩:=kR h2;rw[←hX] at h2;have yF:Hid (∀w' Y,Sat W w' (sep Y X)→Ext I w'):=ah fun w' Y h'=>by rw[hX] at h';exact h'.drop.p1.ext
 obtain⟨Z,hZ⟩:=aB (sep (blk B (.cells #[.int .i64 p,.int .i64 q,.slice x1 ni c1,.slice x2 nk c2] 34 (0,0))) A);have HPM:Hid ((∀w' Y,Sat W w' (sep Y X)→Sat W w' (sep (kn I) (sep Y Z)))∧(∀w' O Y,Sat W w' (sep O (sep (kn I) (sep Y Z)))→Sat W w' (sep O (sep Y X)))∧(∀w' Y,Sat W w' (sep Y X)→Sat W w' (sep Y (sep (kn I) A)))):=ah ⟨fun w' Y h'=>by rw[hX] at h';rw[hZ];simpa only[aA,ay,aj] using h',fun w' O Y h'=>by rw[hZ] at h';rw[hX];simpa only[aA,ay,aj] using h',fun w' Y h'=>by rw[hX] at h';exact Sat.drop (by simpa only[aA,ay,aj] using h':Sat W w' (sep (blk B (.cells #[.int .i64 p,.int .i64 q,.slice x1 ni c1,.slice x2 nk c2] 34 (0,0))) (sep Y (sep (kn I) A))))⟩;have H2:=ah h2;have HP:=ah h64;have HIH:=ah ih;have HI:=ah hi;have HK:=ah hk;have HN:=ah (And.intro hnk hni);have uF:=ah (And.intro hkn hin);have HV:=ah (And.intro hV0 (And.intro Ai (And.intro hVd (And.intro hDs hDe))));have HL:=ah (And.intro Ah hDl);obtain⟨Po,dU⟩:∃P:Ending→World→Prop,P=fun e w'=>∃a c,e=.returned (.slice a E.length c)∧Sat W w' (sep (aT 5 1 a E.length c (E.map bv)) (sep (kn I) A)):=⟨_,rfl⟩
 rw[←dU];have bI:=ah dU;clear hr h64 hlen h hi hk h1 h2 hB hw1 hwd hin hkn hE hV hD hV0 Ai hVd hDs hDe hEl Ah hDl hnk hni hX ih dU
 go_enter Tryz.func139,Tryz.ntmps139
 go_upto_region 1 with (fail)
 rw[←HB.out.1,←HB.out.2];refine aG rfl (fun w'=>w'.cell? ⟨B,1,none⟩=some (.int .i64 q)) [(0,.p),(1,.t),(3,.p),(4,.s),(2,.e true),(5,.e false),(6,.e false),(7,.p)] (by kernel_rfl) ?_;rw[←HW.out];have hS0:wd.cell? ⟨B,1,none⟩=some (.int .i64 q):=c1';refine bF ?_
 (refine jH rfl rfl (fun K hK=>?_);go_simp)
 refine (iH p HP.out.1.1 HP.out.1.2 H2.out).mono ?_;rintro e w2 ⟨a1,d1,rfl,h3⟩;have hS0:=(HC.out _ _ h3).2.1
 (refine hK _ _ (fun _=>hS0) ?_;clear hK K;(try simp only[Act.put,lsA,lsB,kJ]))
 obtain⟨m1,hm1⟩:=aB ((PA.encI p).length);obtain⟨v1,hv1⟩:=aB ((PA.encI p).map bv);have hb1:=dY HP.out.1.1 HP.out.1.2;have hb2:=dY HP.out.2.1.1 HP.out.2.1.2;rw[←hm1,←hv1] at h3;rw[←hm1] at hb1 ⊢;have H3:=ah h3;have Y5:=ah (And.intro hm1 hv1);clear h3 hm1 hv1 c0 c1' H2
 (refine jH rfl rfl (fun K hK=>?_);go_simp)
 refine (iH q HP.out.2.1.1 HP.out.2.1.2 H3.out).mono ?_;rintro e w3 ⟨a2,d2,rfl,h4⟩;have mD:=ah (jg h4);have h5:=h4.drop;obtain⟨m2,hm2⟩:=aB ((PA.encI q).length);obtain⟨v2,hv2⟩:=aB ((PA.encI q).map bv);rw[←hm2,←hv2] at mD;rw[←hm2] at hb2 ⊢;have rO:=ah (And.intro hm2 hv2);clear h4 hm2 hv2 H3 hS0;refine dQ ?_;clear hK K;refine jH rfl rfl (fun K hK=>?_);refine jC (.tmp 8) (.tmp 11) 51 rfl 5 1 1 (.int .u8 0) Tryz.underlying51 eH rfl rfl h5 rfl v2 mD.out.len mD.out.nil mD.out.src mD.out.one (by omega) (by unfold maxLen;omega) ?_;intro a3 d3 w4 h6;clear mD h5;have H6:=ah h6;have hmm:m1+m2≤20:=by omega
 clear h6 hb1 hb2;refine dQ ?_;clear hK K;refine bF ?_;refine dN ?_;obtain⟨-,-,c2,-⟩:=HC.out _ _ H6.out
 go_upto_region 2 with (fail)
 go_wp2_with fail
 refine (iH (ni:Int) (by have:=uF.out;omega) (by have:=uF.out;omega) H6.out).mono ?_;rintro e w5 ⟨a4,d4,rfl,h7⟩;have mD:=ah (jg h7);have h8:=h7.drop;have hb4:=dY (r:=(ni:Int)) (by have:=uF.out;omega) (by have:=uF.out;omega);obtain⟨m4,hm4⟩:=aB ((PA.encI ni).length);obtain⟨v4,hv4⟩:=aB ((PA.encI ni).map bv);rw[←hm4,←hv4] at mD;rw[←hm4] at hb4 ⊢;have HM4:=ah (And.intro hm4 hv4);clear h7 hm4 hv4 H6 c2
 go_wp2_with (at_builtin;(refine aJ rfl (.tmp 13) (.tmp 17) 51 rfl 5 1 1 (.int .u8 0) Tryz.underlying51 eH rfl rfl h8 rfl v4 mD.out.len mD.out.nil mD.out.src mD.out.one (by omega) (by unfold maxLen;omega) ?_))
 intro a5 d5 w6 h9;have H9:=ah h9;clear h8 h9 mD;have hEV:m1+m2+m4=(V 0).length∧v1++(v2++v4)=(V 0).map bv:=by
  rw[HV.out.1,Y5.out.1,Y5.out.2,rO.out.1,rO.out.2,HM4.out.1,HM4.out.2];exact⟨by simp only[dF],by simp only[oO,List.append_assoc]⟩
 have HEV:=ah hEV;clear hEV hmm hb4
 go_wp2_with fail
 go_loopw [3,4] (fun ov kv wr=>∃(k:Nat) (a':Option Addr) (n' c':Nat) (vs:List Value),ov=.slice a' n' c'∧kv=.int .i64 k∧k≤ni∧Hid (n'=(V k).length∧vs=(V k).map bv)∧Sat W wr (sep (aT 5 1 a' n' c' vs) X)) (fun _ kv _=>ni-(intOf kv).toNat)
 case atStart=>exact⟨0,a5,_,d5,_,rfl,rfl,by omega,HEV,H9.out⟩
 case round=>
  obtain⟨j,a',n',c',vs',rfl,rfl,hj,HVV,hS⟩:=hrel;clear H9;obtain⟨-,-,c2,-⟩:=HC.out _ _ hS
  by_cases hlt:j<ni
  ·have hltz:(j:Int)<(ni:Int):=by omega
   obtain⟨g,hg⟩:∃g,i[j]?=some g:=⟨_,List.getElem?_eq_getElem (by have:=HN.out;omega)⟩
   obtain⟨b,o,rfl,hcell⟩:=uV HI.out hg;obtain⟨k0,k1,k2,k3,k4,k5,k6,k7⟩:=hcell wr (yF.out _ _ hS);have hcall:=D9 g (fun r hr=>HP.out.2.2.1 g (List.mem_of_getElem? hg) r hr) hS;have hb2:(fO (dH g)).length≤90:=by
    have:=uM (l:=dH g) (by simp[dH]) (fun r hr=>HP.out.2.2.1 g (List.mem_of_getElem? hg) r hr) (dH g).length;rw[pW] at this;simp[dH] at this ⊢;omega
   obtain⟨m2',hm2⟩:=aB ((fO (dH g)).length);obtain⟨us,hus⟩:=aB ((fO (dH g)).map bv);rw[←hm2,←hus] at hcall;rw[←hm2] at hb2;unfold FW at hcall;have XA:=ah hcall;have hnb:n'≤268435456:=by rw[HVV.out.1];exact HL.out.1 j
   have HB2:=ah (And.intro hnb hb2);have pI:Hid (V (j+1)=V j++fO (dH g)∧j<ni):=ah ⟨HV.out.2.1 j g hg,hlt⟩;have HU:=ah (And.intro hm2 hus);clear hg hcell hcall hb2 hnb hm2 hus hlt hj hS
   go_upto_region 6 with (fail)
   go_wp2_with fail
   refine XA.out.mono ?_;rintro e w3 ⟨a2',c2',rfl,h3⟩;clear XA k0 k1 k2 k3 k4 k5 k6 k7 c2;have mD:Hid (oH w3 a2' m2' us):=ah (by rw[HU.out.2,HU.out.1] at h3 ⊢;exact jg h3);have h4:=h3.drop;clear h3
   go_wp2_with (at_builtin;(refine aJ rfl (.tmp 26) (.tmp 32) 51 rfl 5 1 1 (.int .u8 0) Tryz.underlying51 eH rfl rfl h4 rfl us mD.out.len mD.out.nil mD.out.src mD.out.one (by have:=HB2.out;omega) (by have:=HB2.out;unfold maxLen;omega) ?_))
   intro a4' c4' w5' h5;have H5:=ah h5;clear h4 h5 mD
   go_wp2_with fail
   go_roundw
   case rel=>
    refine⟨j+1,a4',n'+m2',c4',_,rfl,by go_num,by have:=pI.out.2;omega,ah ⟨?_,?_⟩,H5.out⟩
    ·rw[pI.out.1,dF,HVV.out.1,HU.out.1]
    ·rw[pI.out.1,oO,HVV.out.2,HU.out.2]
   case measure=>simp[intOf];have:=pI.out.2;omega
  ·obtain rfl:j=ni:=by omega
   have HS:=ah hS;obtain⟨-,-,-,c3⟩:=HC.out _ _ hS;have hnb:n'≤268435456:=by rw[HVV.out.1];exact HL.out.1 j
   clear hS hlt hj
   go_upto_region 7 with (fail)
   go_wp2_with fail
   refine (iH (nk:Int) (by have:=uF.out;omega) (by have:=uF.out;omega) HS.out).mono ?_;rintro e w3 ⟨a2',c2',rfl,h3⟩;have mD:=ah (jg h3);have h4:=h3.drop;have hb5:=dY (r:=(nk:Int)) (by have:=uF.out;omega) (by have:=uF.out;omega);obtain⟨m5,Zy⟩:=aB ((PA.encI nk).length);obtain⟨v5,hv5⟩:=aB ((PA.encI nk).map bv);rw[←Zy,←hv5] at mD;rw[←Zy] at hb5 ⊢;have HM5:=ah (And.intro Zy hv5);clear h3 Zy hv5 HS c2 c3
   go_wp2_with (at_builtin;(refine aJ rfl (.tmp 34) (.tmp 38) 51 rfl 5 1 1 (.int .u8 0) Tryz.underlying51 eH rfl rfl h4 rfl v5 mD.out.len mD.out.nil mD.out.src mD.out.one (by omega) (by unfold maxLen;omega) ?_))
   intro a6 d6 w7 h10;have Fh:=ah h10;have HED:Hid (n'+m5=(D 0).length∧vs'++v5=(D 0).map bv):=ah (by
    rw[HV.out.2.2.1,HVV.out.1,HVV.out.2,HM5.out.1,HM5.out.2,dF,oO];exact⟨rfl,rfl⟩)
   clear h4 h10 mD hb5 hnb
   go_wp2_with fail
   go_loopw [3,5] (fun ov kv wr=>∃(k:Nat) (a':Option Addr) (n' c':Nat) (vs:List Value),ov=.slice a' n' c'∧kv=.int .i64 k∧k≤nk∧Hid (n'=(D k).length∧vs=(D k).map bv)∧Sat W wr (sep (aT 5 1 a' n' c' vs) X)) (fun _ kv _=>nk-(intOf kv).toNat)
   case atStart=>exact⟨0,a6,_,d6,_,rfl,rfl,by omega,HED,Fh.out⟩
   case round=>
    obtain⟨t,a'',n'',c'',vs'',rfl,rfl,hj,XB,hS⟩:=hrel;clear Fh;obtain⟨-,-,-,c3⟩:=HC.out _ _ hS
    by_cases hlt:t<nk
    ·have hltz:(t:Int)<(nk:Int):=by omega
     obtain⟨g,hg⟩:∃g,k[t]?=some g:=⟨_,List.getElem?_eq_getElem (by have:=HN.out;omega)⟩
     obtain⟨b,o,p',q',y1,e1,d1,y2,e2,d2,rfl,hgr,hcell⟩:=gV HK.out hg;have hmem:g∈k:=List.mem_of_getElem? hg;obtain⟨j0,j1,j2,j3⟩:=hcell wr (yF.out _ _ hS);have hlg:(bZ g).length≤268435456:=by
      have h1:=HV.out.2.2.2.1 t g hg;have h2:=HL.out.2 (t+1);rw[h1,dF] at h2;omega
     have hcall:=HIH.out g hmem wr _ p' q' y1 e1 d1 y2 e2 d2 hgr (Fm.KN HP.out.2.2.2 hmem) hlg (HPM.out.1 _ _ hS);obtain⟨m6,Zz⟩:=aB ((bZ g).length);obtain⟨us,hus⟩:=aB ((bZ g).map bv);have HU:=ah (And.intro Zz hus);rw[←Zz,←hus] at hcall;rw[←Zz] at hlg;have XA:=ah hcall;have hnb:n''≤268435456:=by rw[XB.out.1];exact HL.out.2 t
     have HB2:=ah (And.intro hnb hlg);have pI:Hid (D (t+1)=D t++bZ g∧t<nk):=ah ⟨HV.out.2.2.2.1 t g hg,hlt⟩;clear hgr hcell hmem hlg hcall hg hS hlt hj hnb Zz hus
     go_upto_region 11 with (fail)
     go_wp2_with fail
     refine XA.out.mono ?_;rintro e w3' ⟨a7,d7,rfl,h11⟩;clear XA j0 j1 j2 j3 c3;have mD:Hid (oH w3' a7 m6 us):=ah (by rw[HU.out.2,HU.out.1] at h11 ⊢;exact jg h11);have h12:=(HPM.out.2.1 _ _ _ h11).drop;clear h11
     go_wp2_with (at_builtin;(refine aJ rfl (.tmp 47) (.tmp 53) 51 rfl 5 1 1 (.int .u8 0) Tryz.underlying51 eH rfl rfl h12 rfl us mD.out.len mD.out.nil mD.out.src mD.out.one (by have:=HB2.out;omega) (by have:=HB2.out;unfold maxLen;omega) ?_))
     intro a8 d8 w8 h13;have U6:=ah h13;clear h12 h13 mD
     go_wp2_with fail
     go_roundw
     case rel=>
      refine⟨t+1,a8,n''+m6,d8,_,rfl,by go_num,by have:=pI.out.2;omega,ah ⟨?_,?_⟩,U6.out⟩
      ·rw[pI.out.1,dF,XB.out.1,HU.out.1]
      ·rw[pI.out.1,oO,XB.out.2,HU.out.2]
     case measure=>simp[intOf];have:=pI.out.2;omega
    ·obtain rfl:t=nk:=by omega
     have HF:Hid (n''=E.length∧vs''=E.map bv):=ah (by
      have:=HV.out.2.2.2.2;rw[←this];exact XB.out)
     have HS:=ah (HPM.out.2.2 _ _ hS);clear hS XB hlt hj
     go_wp2
     rw[bI.out];exact⟨a'',c'',by rw[←HF.out.1];try rfl,by rw[←HF.out.1,←HF.out.2];exact HS.out⟩
end Go.Proofs.YthfmaclnccdcbaaGreatDoor
namespace PA
open Go Go.RowKit
def gu (f:Fm):List UInt8:=if jV f=0 then bZ f else []
theorem tJ {I J:Mem} {w:World} (hl:Mem.le I J) (h:Ext J w):Ext I w:=fun b o hb=>h b o (hl b o hb)
theorem iZ (I:Mem):bT.rel I [.slice none 0 0] []:=
 uH.2 ⟨none,0,rfl,⟨Nat.le_refl _,Nat.zero_le _,fun _=>rfl⟩,.inl rfl⟩
end PA
namespace Go.Proofs.YthfmaclnccdcbaaGreatDoor
open Go.RowKit PA
theorem iy {W w:World} {A:aC} {I:Mem} {a:Option Addr} {l c:Nat} {gb:List UInt8} (h:Sat W w (sep (aT 5 1 a l c (gb.map bv)) (sep (kn I) A))) (hl:l=gb.length):∃J,Mem.le I J∧bT.rel J [.slice a l c] gb∧Sat W w (sep (kn J) A):=by
 subst hl;exact h.Hf.2.learn
set_option maxHeartbeats 2000000 in
theorem uj {W w:World} {A:aC} {I:Mem} (f:Fm) (p q:Int) (x1:Option Addr) (n1 c1:Nat) (x2:Option Addr) (n2 c2:Nat) (hr:rF.rel I [.int .i64 p,.int .i64 q,.slice x1 n1 c1,.slice x2 n2 c2] f) (hsz:f.size≤mg) (h64:f.n64) (hlen:(bZ f).length≤268435456) (h:Sat W w (sep (kn I) A)):
 Calls Tryz.prog 83 #[.agg #[.int .i64 p,.int .i64 q,.slice x1 n1 c1,.slice x2 n2 c2]] w fun e w'=>∃(a:Option Addr) (n c:Nat) (J:Mem),e=.returned (.tuple #[.slice a n c,.int .i64 (jV f)])∧Mem.le I J∧bT.rel J [.slice a n c] (gu f)∧Sat W w' (sep (kn J) A):=by
 have h1:=h.alloc (.cells #[.int .i64 p,.int .i64 q,.slice x1 n1 c1,.slice x2 n2 c2] 34);obtain⟨B,hB⟩:=aB (w.heap.size);obtain⟨w1,hw1⟩:=aB (w.alloc (.cells #[.int .i64 p,.int .i64 q,.slice x1 n1 c1,.slice x2 n2 c2] 34));rw[←hB,←hw1] at h1;obtain⟨k0,k1,k2,k3⟩:=kR h1;have HB:=ah (And.intro hB hw1);have H1:=ah h1;obtain⟨rv,dK⟩:=aB (jV f);obtain⟨E,hE⟩:=aB (gu f);have sH:Hid (∀w' A',Sat W w' (sep (kn I) A')→Calls Tryz.prog 123 #[.agg #[.int .i64 p,.int .i64 q,.slice x1 n1 c1,.slice x2 n2 c2]] w' fun e w''=>e=.returned (.int .i64 rv)∧Sat W w'' (sep (kn I) A')):=ah fun w' A' h'=>by rw[dK];exact jB f p q x1 n1 c1 x2 n2 c2 hr hsz h'
 have Sz:Hid (rv=0→∀w' A',Sat W w' (sep (kn I) A')→Calls Tryz.prog 139 #[.agg #[.int .i64 p,.int .i64 q,.slice x1 n1 c1,.slice x2 n2 c2]] w' fun e w''=>∃(a:Option Addr) (n c:Nat) (J:Mem),e=.returned (.slice a n c)∧Mem.le I J∧bT.rel J [.slice a n c] E∧Sat W w'' (sep (kn J) A')):=ah fun h0 w' A' h'=>by
  refine (vS f w' A' p q x1 n1 c1 x2 n2 c2 hr h64 hlen h').mono ?_;rintro e w'' ⟨a,c,rfl,h3⟩;obtain⟨J,hle,hr',h4⟩:=iy h3 rfl;refine⟨a,_,c,J,rfl,hle,?_,h4⟩;rw[hE];unfold gu;rw[if_pos (by rw[←dK];exact h0)];exact hr'
 have rM:Hid (rv≠0→E=[]):=ah fun h0=>by rw[hE];unfold gu;rw[if_neg (by rw[←dK];exact h0)]
 rw[←dK,←hE];obtain⟨Po,dU⟩:∃P:Ending→World→Prop,P=fun e w'=>∃(a:Option Addr) (n c:Nat) (J:Mem),e=.returned (.tuple #[.slice a n c,.int .i64 rv])∧Mem.le I J∧bT.rel J [.slice a n c] E∧Sat W w' (sep (kn J) A):=⟨_,rfl⟩
 rw[←dU];have bI:=ah dU;clear hr hsz h64 hlen h h1 hB hw1 dK hE dU
 by_cases hb0:rv=0
 ·subst hb0
  have Aa:=ah (Sz.out rfl);clear Sz rM
  go_enter Tryz.func83,Tryz.ntmps83
  go_upto_region 1 with (fail)
  rw[←HB.out.1,←HB.out.2]
  go_wp2_with fail
  refine (sH.out _ _ H1.out.p1).mono ?_;rintro e w2 ⟨rfl,h2⟩;have H2:=ah h2.p1;clear h2 sH k0 k1 k2 k3;obtain⟨k0,k1,k2,k3⟩:=kR H2.out
  go_wp2_with fail
  refine (Aa.out _ _ H2.out.p1).mono ?_;rintro e w3 ⟨a,n,c,J,rfl,hle,hr,h3⟩;have HF:=ah (And.intro hle (And.intro hr h3.p1.drop));clear h3 hle hr k0 k1 k2 k3 Aa
  go_wp2
  rw[bI.out];exact⟨a,n,c,J,rfl,HF.out.1,HF.out.2.1,HF.out.2.2⟩
 ·have GX:=ah (rM.out hb0)
  have hb1:(rv !=0)=true:=by simpa using hb0
  have hb2:(rv==0)=false:=by simpa using hb0
  clear Sz rM hb0
  go_enter Tryz.func83,Tryz.ntmps83
  go_upto_region 1 with (fail)
  rw[←HB.out.1,←HB.out.2]
  go_wp2_with fail
  refine (sH.out _ _ H1.out.p1).mono ?_;rintro e w2 ⟨rfl,h2⟩;have HF:=ah h2.p1.drop;clear h2 sH k0 k1 k2 k3
  go_wp2
  rw[bI.out];exact⟨none,0,0,I,rfl,Mem.le_refl I,by rw[GX.out];exact iZ I,HF.out⟩
end Go.Proofs.YthfmaclnccdcbaaGreatDoor
namespace PA
open Go Go.RowKit
def nK (c:Cl):List UInt8:=fO c.refs++encR (bZ c.body)
def nM (l:List Cl):List UInt8:=(l.map nK).flatten
def fZ (l:List Cl):List UInt8:=PA.encI l.length++nM l
def gU (l:List Cl):List UInt8:=if pR l=0 then fZ l else []
def rQ (l:List Fm):List UInt8:=(l.map fun f=>encR (gu f)).flatten
def lU (td:List Fm) (tc:List Cl):List UInt8:=PA.encI td.length++rQ td++encR (gU tc)
def jE (td:List Fm) (tc:List Cl):List UInt8:=if ED td tc=0 then lU td tc else []
def oJ (e:Ea):List UInt8:=PA.encI e.file++PA.encI e.day
def kQ (l:List Ea):List UInt8:=(l.map oJ).flatten
def fH (x:Pa):List Int:=[x.k,x.d,x.n,x.f,x.o,x.p,x.q,x.u,x.m,x.sn,x.sd]
def iE (x:Pa):List UInt8:=if x.k=0 then encR (jE x.td x.tc)++PA.encI x.ea.length++kQ x.ea else if x.k=19 then encR (gu x.fx) else []
def sZ (x:Pa):List UInt8:=if x.cl=[] then [] else encR (gU x.cl)
def Ce (x:Pa):List UInt8:=((fH x).map PA.encI).flatten++iE x++sZ x
def gZ (x:Pa):List UInt8:=if aZ x=true then Ce x else []
structure EG (c:Cl):Prop where
 r64:∀r∈c.refs,-9223372036854775808≤r∧r≤9223372036854775807
 rn:c.refs.length≤1048576
 b64:c.body.n64
 bl:(bZ c.body).length≤16777216
structure Qi (f:Fm):Prop where
 b64:f.n64
 bl:(bZ f).length≤16777216
structure kK (x:Pa):Prop where
 n64:∀r∈fH x,-9223372036854775808≤r∧r≤9223372036854775807
 td:∀f∈x.td,Qi f
 tc:∀c∈x.tc,EG c
 cl:∀c∈x.cl,EG c
 ea:∀e∈x.ea,(-9223372036854775808≤e.file∧e.file≤9223372036854775807)∧(-9223372036854775808≤e.day∧e.day≤9223372036854775807)
 fx:Qi x.fx
 lt:(lU x.td x.tc).length≤268435456
 ltc:(fZ x.tc).length≤134217728
 lcl:(fZ x.cl).length≤134217728
 lw:(Ce x).length≤1073741824
theorem mM {α:Type} (e:α→List UInt8) {l:List α} {j:Nat} {g:α} (h:l[j]?=some g):((l.take (j+1)).map e).flatten=((l.take j).map e).flatten++e g:=by
 rw[List.take_add_one,h];simp
theorem uO {α:Type} (e:α→List UInt8) (l:List α) (j:Nat):((l.take j).map e).flatten.length≤(l.map e).flatten.length:=by
 induction l generalizing j with
 | nil=>simp
 | cons g l ih=>
  cases j with
  | zero=>simp
  | succ j=>
   have:=ih j;rw[List.take_succ_cons,List.map_cons,List.map_cons,List.flatten_cons,List.flatten_cons,dF,dF];omega
theorem iO {b:List UInt8} {N:Nat} (h:b.length≤N) (hN:N≤1152921504606846976):(encR b).length≤N+10:=by
 unfold encR;rw[dF];have:=Lib.uvarint_length64 (x:=b.length) (by omega);omega
theorem kC {f:Fm} {N:Nat} (h:(bZ f).length≤N):(gu f).length≤N:=by
 unfold gu;split
 ·exact h
 ·exact Nat.zero_le _
theorem jc {l:List Cl} {N:Nat} (h:(fZ l).length≤N):(gU l).length≤N:=by
 unfold gU;split
 ·exact h
 ·exact Nat.zero_le _
theorem mJ {td:List Fm} {l:List Cl} {N:Nat} (h:(lU td l).length≤N):(jE td l).length≤N:=by
 unfold jE;split
 ·exact h
 ·exact Nat.zero_le _
end PA
namespace PA
open Go Go.RowKit
theorem jd {r:Int} (h1:-9223372036854775808≤r) (h2:r≤9223372036854775807):(PA.encI r).length≤10:=dY h1 h2
theorem Hu {l:List Int} (hn:l.length≤1048576) (hi:∀r∈l,-9223372036854775808≤r∧r≤9223372036854775807):(fO l).length≤10+10*l.length:=by
 have:=uM hn hi l.length
 rwa [pW] at this
theorem iL {α:Type} (e:α→List UInt8) {B:Nat}:∀{l:List α},(∀g∈l,(e g).length≤B)→(l.map e).flatten.length≤B*l.length
 | [],_=>by simp
 | g::l,h=>by
  rw[List.map_cons,List.flatten_cons,dF,List.length_cons,Nat.mul_add];have h1:=h g (List.mem_cons_self ..);have h2:=iL e (B:=B) (l:=l) fun a ha=>h a (List.mem_cons_of_mem _ ha)
  omega
theorem iv64 {x:Iv} (h:Bf x):∀r∈PA.dH x,-9223372036854775808≤r∧r≤9223372036854775807:=by
 obtain⟨h1,h2,h3,h4,h5⟩:=h;have o1:=AV x.lo;have o2:=AV x.ho;have o3:=AV x.li;have o4:=AV x.hi;unfold MR at o1 o2 o3 o4;have hh:0≤x.hn∧x.hn≤8∧0≤x.hd∧x.hd≤1:=by
  rcases h5 with ⟨-,e1,e2,-⟩|⟨-,e1,e2,e3⟩
  ·rw[e1,e2];omega
  ·omega
 intro r hr;simp only[dH,List.mem_cons,List.not_mem_nil,or_false] at hr;rcases hr with rfl|rfl|rfl|rfl|rfl|rfl|rfl|rfl<;>omega
theorem pU {o n:Int} {i:List Iv} {k:List Fm} (ho:MR o) (hn:MR n) (hi:i.length≤1000000) (hk:k.length≤1000000):(bZ (.mk o n i k)).length≤40+(dO i).length+(eu k).length:=by
 rw[bZ];simp only[dF];have h1:=jd ho.1 ho.2;have h2:=jd hn.1 hn.2;have h3:=jd (r:=(i.length:Int)) (by omega) (by omega);have h4:=jd (r:=(k.length:Int)) (by omega) (by omega);omega
theorem jk {f:Fm} (h:oG f):f.n64∧(bZ f).length≤140:=by
 obtain⟨n,h1,h2,rfl⟩:=h;refine⟨by simp[Fm.n64,Fm.Dx,MR];omega,?_⟩;have:=pU (o:=1) (n:=n) (i:=[]) (k:=[]) ⟨by omega,by omega⟩ ⟨by omega,by omega⟩ (by simp) (by simp);simp[dO,eu] at this;omega
theorem uX {f:Fm} (h:zx f):f.n64∧(bZ f).length≤140:=by
 obtain⟨n,x,h1,h2,hx,rfl⟩:=h;have hi:=iv64 hx;refine⟨?_,?_⟩
 ·rw[Fm.n64]
  exact⟨⟨by omega,by omega⟩,⟨by omega,by omega⟩,fun y hy=>by rw[List.mem_singleton.1 hy];exact hi,by simp[Fm.Dx]⟩
 ·have:=pU (o:=2) (n:=n) (i:=[x]) (k:=[]) ⟨by omega,by omega⟩ ⟨by omega,by omega⟩ (by simp) (by simp)
  have e:=Hu (l:=dH x) (by simp[dH]) hi;rw[show (dH x).length=8 from rfl] at e;simp[dO,eu] at this;omega
theorem KO {o:Int} {k:List Fm} (ho:0≤o∧o≤10) (hk:∀f∈k,f.n64∧(bZ f).length≤200) (hl:k.length≤2):Fm.n64 (.mk o 0 [] k)∧(bZ (.mk o 0 [] k)).length≤440:=by
 have h1:Fm.Dx k:=by
  have key:∀l:List Fm,(∀f∈l,f.n64)→Fm.Dx l:=by
   intro l
   induction l with
   | nil=>intro _;trivial
   | cons g l ih=>intro h;rw[Fm.Dx];exact⟨h g (List.mem_cons_self ..),ih fun f hf=>h f (List.mem_cons_of_mem _ hf)⟩
  exact key k fun f hf=>(hk f hf).1
 have h2:(eu k).length≤200*k.length:=by
  have key:∀l:List Fm,(∀f∈l,(bZ f).length≤200)→(eu l).length≤200*l.length:=by
   intro l
   induction l with
   | nil=>intro _;simp[eu]
   | cons g l ih=>
    intro h;rw[eu,dF,List.length_cons];have:=h g (List.mem_cons_self ..);have:=ih fun f hf=>h f (List.mem_cons_of_mem _ hf)
    omega
  exact key k fun f hf=>(hk f hf).2
 refine⟨by rw[Fm.n64];exact⟨⟨by omega,by omega⟩,⟨by omega,by omega⟩,by simp,h1⟩,?_⟩;have:=pU (o:=o) (n:=0) (i:=[]) (k:=k) ⟨by omega,by omega⟩ ⟨by omega,by omega⟩ (by simp) (by omega);simp[dO] at this;omega
theorem yZ {o:Int} {f:Fm} (ho:0≤o∧o≤10) (hf:f.n64∧(bZ f).length≤140):Fm.n64 (.mk o 0 [] [f])∧(bZ (.mk o 0 [] [f])).length≤200:=by
 refine⟨by rw[Fm.n64];exact⟨⟨by omega,by omega⟩,⟨by omega,by omega⟩,by simp,by rw[Fm.Dx];exact⟨hf.1,trivial⟩⟩,?_⟩;have:=pU (o:=o) (n:=0) (i:=[]) (k:=[f]) ⟨by omega,by omega⟩ ⟨by omega,by omega⟩ (by simp) (by simp);simp[dO,eu] at this;omega
theorem jO {f:Fm} (h:cO f):f.n64∧(bZ f).length≤440:=by
 have two:∀{o:Int} {f g:Fm},0≤o∧o≤10→f.n64∧(bZ f).length≤140→g.n64∧(bZ g).length≤200→Fm.n64 (.mk o 0 [] [f,g])∧(bZ (.mk o 0 [] [f,g])).length≤440:=by
  intro o f g ho hf hg;refine KO ho (fun x hx=>?_) (by simp);simp only[List.mem_cons,List.not_mem_nil,or_false] at hx;rcases hx with rfl|rfl
  ·exact⟨hf.1,by omega⟩
  ·exact hg
 cases h with
 | c h=>have:=jk h;exact⟨this.1,by omega⟩
 | v h=>have:=uX h;exact⟨this.1,by omega⟩
 | FB h g=>have:=uX g;exact two (by omega) (jk h) ⟨this.1,by omega⟩
 | Rj h g=>have:=uX g;exact two (by omega) (jk h) ⟨this.1,by omega⟩
 | UE h g=>have:=jk g;exact two (by omega) (jk h) ⟨this.1,by omega⟩
 | Tc h g=>exact two (by omega) (jk h) (yZ (by omega) (jk g))
 | part h=>have:=yZ (o:=3) (by omega) (jk h);exact⟨this.1,by omega⟩
 | Td h g=>exact two (by omega) (jk h) (yZ (by omega) (uX g))
theorem NH {f:Fm} (h:cO f):Qi f:=⟨(jO h).1,by have:=(jO h).2;omega⟩
theorem U4:Fm.n64 Fm.zero∧(bZ Fm.zero).length≤440:=by
 unfold Fm.zero;refine KO (by omega) (fun f hf=>by cases hf) (by simp)
theorem yT {l:List Cl} (h:jW l):∀c∈l,EG c∧(nK c).length≤480:=by
 intro c hc;obtain⟨i,hi,rfl⟩:=List.mem_iff_getElem.1 hc;obtain⟨hF,hr⟩:=h.2.2 i hi;have hl:=h.2.1;have hrn:=(oM hr).1;have Dh:∀r∈l[i].refs,-9223372036854775808≤r∧r≤9223372036854775807:=fun r hh=>by
  have:=zf (oM hr).2 r hh;omega
 refine⟨⟨Dh,by omega,(jO hF).1,by have:=(jO hF).2;omega⟩,?_⟩;unfold nK;rw[dF];have e1:=Hu (by omega) Dh;have e2:=iO (jO hF).2 (by omega);omega
theorem CO {l:List Cl} (h:jW l):(fZ l).length≤1500:=by
 unfold fZ nM;rw[dF];have e1:=jd (r:=(l.length:Int)) (by omega) (by have:=h.2.1;omega);have e2:=iL nK (B:=480) fun c hc=>(yT h c hc).2
 have:=h.2.1;have e3:480*l.length≤480*3:=Nat.mul_le_mul_left _ this;omega
theorem PO:(fZ []).length≤1500:=by
 unfold fZ nM;have:=jd (r:=0) (by omega) (by omega);simp;omega
structure ShA (x:Pa):Prop where
 ns:∀r∈fH x,-1≤r∧r≤1000000
 td:∀f∈x.td,cO f
 tn:x.td.length≤2
 tc:x.tc=[]∨jW x.tc
 cl:x.cl=[]∨jW x.cl
 en:x.ea.length≤2
 ea:∀e∈x.ea,(0≤e.file∧e.file≤5000)∧0≤e.day∧e.day≤40000
 fx:x.fx=Fm.zero∨cO x.fx
theorem JV {N:Nat} {x:Pa} (hN:N≤100) (h:Jl N x) (hn:0≤x.n∧x.n≤1000000):ShA x:=by
 obtain⟨y,d,n,hy,hd1,hd2,rfl⟩:=h;have hn':0≤n∧n≤1000000:=hn;rcases hy with ⟨o,p,q,td,tc,ea,rfl,ho,hp,hq,hT,hE⟩|hy
 ·refine⟨?_,hT.2.2.1,hT.2.1,.inr hT.2.2.2,.inl rfl,hE.1,fun e he=>?_,.inl rfl⟩
  ·have WT:-1≤q∧q≤4095:=by
    rcases hq with rfl|⟨j,hj,rfl⟩<;>omega
   simp[fH,bC,Pa.zero];omega
  ·obtain⟨⟨j,hj,hf⟩,h1,h2⟩:=hE.2.1 e he
   omega
 ·cases hy with
  | plain hk hf=>obtain⟨j,hj,rfl⟩:=hf;refine⟨?_,by simp[bC,Pa.zero],by simp[bC,Pa.zero],.inl rfl,.inl rfl,by simp[bC,Pa.zero],by simp[bC,Pa.zero],.inl rfl⟩;rcases hk with rfl|rfl|rfl|rfl<;>(simp[fH,bC,Pa.zero];omega)
  | list hk hf hc=>obtain⟨j,hj,rfl⟩:=hf;refine⟨?_,by simp[bC,Pa.zero],by simp[bC,Pa.zero],.inl rfl,.inr hc,by simp[bC,Pa.zero],by simp[bC,Pa.zero],.inl rfl⟩;rcases hk with rfl|rfl<;>(simp[fH,bC,Pa.zero];omega)
  | pay hf hp hq hu hm1 hm2=>obtain⟨j,hj,rfl⟩:=hf;refine⟨?_,by simp[bC,Pa.zero],by simp[bC,Pa.zero],.inl rfl,.inl rfl,by simp[bC,Pa.zero],by simp[bC,Pa.zero],.inl rfl⟩;simp[fH,bC,Pa.zero];omega
  | small hp hu=>refine⟨?_,by simp[bC,Pa.zero],by simp[bC,Pa.zero],.inl rfl,.inl rfl,by simp[bC,Pa.zero],by simp[bC,Pa.zero],.inl rfl⟩;simp[fH,bC,Pa.zero];omega
  | order hk hf hu1 hu2 hu3=>obtain⟨j,hj,rfl⟩:=hf;refine⟨?_,by simp[bC,Pa.zero],by simp[bC,Pa.zero],.inl rfl,.inl rfl,by simp[bC,Pa.zero],by simp[bC,Pa.zero],.inl rfl⟩;rcases hk with rfl|rfl|rfl|rfl<;>(simp[fH,bC,Pa.zero];omega)
  | extend hf hu1 hu2 hm1 hm2=>obtain⟨j,hj,rfl⟩:=hf;refine⟨?_,by simp[bC,Pa.zero],by simp[bC,Pa.zero],.inl rfl,.inl rfl,by simp[bC,Pa.zero],by simp[bC,Pa.zero],.inl rfl⟩;simp[fH,bC,Pa.zero];omega
  | Ir hk hf hp1 hp2=>obtain⟨j,hj,rfl⟩:=hf;refine⟨?_,by simp[bC,Pa.zero],by simp[bC,Pa.zero],.inl rfl,.inl rfl,by simp[bC,Pa.zero],by simp[bC,Pa.zero],.inl rfl⟩;rcases hk with rfl|rfl<;>(simp[fH,bC,Pa.zero];omega)
  | @decide f q u cl hf hq hu=>
   obtain⟨j,hj,rfl⟩:=hf;refine⟨?_,by simp[bC,Pa.zero],by simp[bC,Pa.zero],.inl rfl,?_,by simp[bC,Pa.zero],by simp[bC,Pa.zero],.inl rfl⟩
   ·have hu':0≤u∧u≤2:=by rcases hu with ⟨h|h,-⟩|⟨h,-⟩<;>(rw[h];decide)
    simp[fH,bC,Pa.zero];omega
   ·rcases hu with ⟨-,rfl⟩|⟨-,hc⟩
    ·exact .inl rfl
    ·exact .inr hc
  | transfer hf hp1 hp2 hq1 hq2 hs=>
   obtain⟨j,hj,rfl⟩:=hf;refine⟨?_,by simp[bC,Pa.zero],by simp[bC,Pa.zero],.inl rfl,.inl rfl,by simp[bC,Pa.zero],by simp[bC,Pa.zero],.inl rfl⟩;unfold MK at hs;simp[fH,bC,Pa.zero];omega
  | Ii hf hp1 hp2 hq1 hq2 hu1 hu2=>obtain⟨j,hj,rfl⟩:=hf;refine⟨?_,by simp[bC,Pa.zero],by simp[bC,Pa.zero],.inl rfl,.inl rfl,by simp[bC,Pa.zero],by simp[bC,Pa.zero],.inl rfl⟩;simp[fH,bC,Pa.zero];omega
  | art hg=>refine⟨?_,by simp[bC,Pa.zero],by simp[bC,Pa.zero],.inl rfl,.inl rfl,by simp[bC,Pa.zero],by simp[bC,Pa.zero],.inr hg⟩;simp[fH,bC,Pa.zero];omega
  | closure ho hu1 hu2=>refine⟨?_,by simp[bC,Pa.zero],by simp[bC,Pa.zero],.inl rfl,.inl rfl,by simp[bC,Pa.zero],by simp[bC,Pa.zero],.inl rfl⟩;simp[fH,bC,Pa.zero];omega
  | rule ho hu1 hu2 hm1 hm2=>refine⟨?_,by simp[bC,Pa.zero],by simp[bC,Pa.zero],.inl rfl,.inl rfl,by simp[bC,Pa.zero],by simp[bC,Pa.zero],.inl rfl⟩;simp[fH,bC,Pa.zero];omega
theorem ShA.size {x:Pa} (h:ShA x):SX x:=by
 have hg:∀{f:Fm},cO f→f.size≤Go.Proofs.YthfmaclnccdcbaaGreatDoor.mg:=fun hf=>by
  have:=(CP hf).sz;unfold Go.Proofs.YthfmaclnccdcbaaGreatDoor.mg;omega
 have hc:∀{l:List Cl},(l=[]∨jW l)→∀c∈l,c.body.size≤Go.Proofs.YthfmaclnccdcbaaGreatDoor.mg:=fun hl c hc=>by
  rcases hl with rfl|hl
  ·cases hc
  ·obtain⟨i,hi,rfl⟩:=List.mem_iff_getElem.1 hc
   exact hg (hl.2.2 i hi).1
 refine⟨fun f hf=>hg (h.td f hf),hc h.tc,hc h.cl,?_⟩;rcases h.fx with e|e
 ·rw[e];unfold Fm.zero Go.Proofs.YthfmaclnccdcbaaGreatDoor.mg;simp[Fm.size,Fm.sizes]
 ·exact hg e
theorem ShA.enc {x:Pa} (h:ShA x):kK x:=by
 have hns:∀r∈fH x,-9223372036854775808≤r∧r≤9223372036854775807:=fun r hr=>by have:=h.ns r hr;omega
 have hcl:∀{l:List Cl},(l=[]∨jW l)→(∀c∈l,EG c)∧(fZ l).length≤1500:=fun hl=>by
  rcases hl with rfl|hl
  ·exact⟨fun c hc=>(by cases hc),PO⟩
  ·exact⟨fun c hc=>(yT hl c hc).1,CO hl⟩
 have hfx:x.fx.n64∧(bZ x.fx).length≤440:=by
  rcases h.fx with e|e
  ·rw[e];exact U4
  ·exact jO e
 have hea:∀e∈x.ea,(-9223372036854775808≤e.file∧e.file≤9223372036854775807)∧(-9223372036854775808≤e.day∧e.day≤9223372036854775807):=fun e he=>by have:=h.ea e he;omega
 have htd:(rQ x.td).length≤450*x.td.length:=iL (fun f=>encR (gu f)) fun f hf=>iO (kC (jO (h.td f hf)).2) (by omega)
 have htn:450*x.td.length≤450*2:=Nat.mul_le_mul_left _ h.tn;have e1:=jd (r:=(x.td.length:Int)) (by omega) (by have:=h.tn;omega);have e2:=iO (jc (hcl h.tc).2) (by omega);have htx:(lU x.td x.tc).length≤3000:=by
  unfold lU;rw[dF,dF];omega
 have hen:(kQ x.ea).length≤20*x.ea.length:=iL oJ fun e he=>by
  have:=hea e he;unfold oJ;rw[dF];have:=jd this.1.1 this.1.2;have:=jd (hea e he).2.1 (hea e he).2.2;omega
 have adQ:20*x.ea.length≤20*2:=Nat.mul_le_mul_left _ h.en;have e3:=jd (r:=(x.ea.length:Int)) (by omega) (by have:=h.en;omega);have hkd:(iE x).length≤3100:=by
  unfold iE;split
  ·rw[dF,dF]
   have:=iO (mJ htx) (by omega);omega
  ·split
   ·have:=iO (kC hfx.2) (by omega)
    omega
   ·simp
 have hac:(sZ x).length≤1510:=by
  unfold sZ;split
  ·simp
  ·exact iO (jc (hcl h.cl).2) (by omega)
 have hn1:=iL PA.encI (B:=10) (l:=fH x) fun r hr=>jd (hns r hr).1 (hns r hr).2
 have hn2:(fH x).length=11:=rfl;rw[hn2] at hn1;refine⟨hns,fun f hf=>NH (h.td f hf),(hcl h.tc).1,(hcl h.cl).1,hea,⟨hfx.1,by have:=hfx.2;omega⟩,by omega,by have:=(hcl h.tc).2;omega,by have:=(hcl h.cl).2;omega,?_⟩;unfold Ce;rw[dF,dF];omega
end PA
namespace PA
open Go Go.RowKit
theorem nO {I:Mem} {a:Option Addr} {n c:Nat} {l:List Int} (h:(qX.slice 1).rel I [.slice a n c] l) {i:Nat} {x:Int} (hx:l[i]?=some x):
 ∃b o,a=some ⟨b,o,none⟩∧∀w',Ext I w'→w'.cell? ⟨b,o+i,none⟩=some (.int .i64 x):=by
 obtain⟨b,o,cs,rfl,hr,-,hc⟩:=lH h hx (by omega);have e:cs=[.int .i64 x]:=hr;subst e;exact⟨b,o,rfl,fun w' he=>by have:=hc w' he 0 _ rfl;rwa [Nat.mul_one] at this⟩
theorem uI {I:Mem} {a:Option Addr} {n c:Nat} {l:List Cl} (h:(kM.slice 5).rel I [.slice a n c] l) {i:Nat} {x:Cl} (hx:l[i]?=some x):
 ∃b o ra rc p q x1 n1 c1 x2 n2 c2,a=some ⟨b,o,none⟩∧(qX.slice 1).rel I [.slice ra x.refs.length rc] x.refs∧rF.rel I [.int .i64 p,.int .i64 q,.slice x1 n1 c1,.slice x2 n2 c2] x.body ∧
  ∀w',Ext I w'→w'.cell? ⟨b,o+i*5,none⟩=some (.slice ra x.refs.length rc)∧w'.cell? ⟨b,o+i*5+1,none⟩=some (.int .i64 p)∧w'.cell? ⟨b,o+i*5+2,none⟩=some (.int .i64 q)∧w'.cell? ⟨b,o+i*5+3,none⟩=some (.slice x1 n1 c1)∧w'.cell? ⟨b,o+i*5+4,none⟩=some (.slice x2 n2 c2):=by
 obtain⟨b,o,cs,rfl,hr,-,hc⟩:=lH h hx (by omega);obtain⟨ra,rc,bs,rfl,h1,h2⟩:=hr;obtain⟨refs,⟨p,q,ins,kids⟩⟩:=x;obtain⟨x1,c1,x2,c2,rfl,h3,h4⟩:=dR.1 h2;exact⟨b,o,ra,rc,p,q,x1,_,c1,x2,_,c2,rfl,h1,dR.2 ⟨x1,c1,x2,c2,rfl,h3,h4⟩,fun w' he=>⟨hc w' he 0 _ rfl,hc w' he 1 _ rfl,hc w' he 2 _ rfl,hc w' he 3 _ rfl,hc w' he 4 _ rfl⟩⟩
theorem P8 {l:List Int} {i:Nat} {r:Int} (h:l[0]?=some r):oU l i 0=(decide (0≤r)&&decide (r<(i:Int))):=by
 unfold oU;rw[h];simp
theorem IJ {l:List Int} {i k:Nat} {r q:Int} (h:l[k+1]?=some r) (h':l[k]?=some q):oU l i (k+1)=(decide (0≤r)&&(decide (r<(i:Int))&&decide (q<r))):=by
 unfold oU;rw[h];simp only;rw[h']
theorem Gm {l:List Int} {i k:Nat} {r:Int} (h:l[k]?=some r) (hr:r<0∨(i:Int)≤r):oU l i k=false:=by
 unfold oU;rw[h];simp only;rcases hr with hr|hr
 ·rw[decide_eq_false (show ¬0≤r by omega)];rfl
 ·rw[decide_eq_false (show ¬r<(i:Int) by omega)];simp
theorem FH {l:List Cl} {j:Nat} {c:Cl} (h:l[j]?=some c):qL j (l.drop j)=if 8<c.refs.length then 4 else if jS c.refs j=false then 1 else if jV c.body≠0 then jV c.body else qL (j+1) (l.drop (j+1)):=by
 obtain⟨hj,rfl⟩:=List.getElem?_eq_some_iff.1 h;rw[List.drop_eq_getElem_cons hj,qL]
end PA
namespace Go.Proofs.YthfmaclnccdcbaaGreatDoor
open Go.RowKit PA
set_option maxRecDepth 100000 in
set_option maxHeartbeats 4000000 in
theorem IC {W w:World} {A:aC} {I:Mem} (a:Option Addr) (c:Nat) (l:List Int) (i:Nat) (hv:(qX.slice 1).rel I [.slice a l.length c] l) (h:Sat W w (sep (kn I) A)):
 Calls Tryz.prog 179 #[.slice a l.length c,.int .i64 (i:Nat)] w fun e w'=>e=.returned (.bool (jS l i))∧Sat W w' (sep (kn I) A):=by
 obtain⟨n,hn⟩:=aB (l.length);obtain⟨rv,dK⟩:=aB (jS l i);have hl63:=(aI hv).2.2;rw[←hn] at hv hl63 ⊢;rw[←dK];have bM:Hid (rv=rW l i n∧n=l.length):=ah ⟨by rw[dK,hn];rfl,hn⟩;have HV:=ah hv;have H:=ah h;clear hv h dK hn
 go_enter Tryz.func179,Tryz.ntmps179
 go_wp2
 go_loopw [5] (fun iv wr=>∃k:Nat,iv=.int .i64 k∧k≤n∧Hid (rW l i k=true)∧Sat W wr (sep (kn I) A)) (fun iv _=>n-(intOf iv).toNat)
 case atStart=>exact⟨0,rfl,by omega,ah (wS l i),H.out⟩
 case round=>
  obtain⟨k,rfl,hk,HT,hS⟩:=hrel
  by_cases hlt:k<n
  ·have hltz:(k:Int)<(n:Int):=by omega
   have hkl:k<l.length:=by have:=bM.out.2;omega
   obtain⟨r,hr⟩:∃r,l[k]?=some r:=⟨_,List.getElem?_eq_getElem hkl⟩
   obtain⟨b,o,rfl,hcell⟩:=nO HV.out hr;have hd:=hS.drew;have c0:=hcell _ hd.ext;have HD:=ah hd;have HR:=ah (And.intro hr (And.intro hlt hkl));have HBAD:Hid (oU l i k=false→rv=false):=ah fun e=>by rw[bM.out.1];exact y9 hlt e
   clear hr hcell hS hd hlt hkl hk H
   by_cases n0:r<0
   ·have n0':decide (r<0)=true:=decide_eq_true n0
    have HF:Hid (rv=false):=ah (HBAD.out (Gm HR.out.1 (.inl n0)));clear n0 HBAD
    go_upto_region 4 with (fail)
    refine aG rfl (fun _=>True) [(0,.p),(1,.p),(2,.p),(3,.t),(4,.p),(5,.p),(6,.p),(7,.p),(8,.p),(9,.t),(10,.p),(11,.p),(12,.p),(13,.p),(14,.p),(15,.p),(16,.p),(17,.p),(18,.p),(19,.p),(20,.t),(21,.p),(22,.p),(23,.p),(24,.p),(25,.t),(26,.p),(27,.p),(28,.p)] (by kernel_rfl) ?_;have hS0:True:=trivial;refine bF ?_;refine dN ?_;clear c0
    go_wp2
    go_ret
    exact⟨by rw[HF.out];rfl,HD.out⟩
   ·have n0':decide (r<0)=false:=decide_eq_false n0
    by_cases n1:(i:Int)≤r
    ·have n1':decide ((i:Int)≤r)=true:=decide_eq_true n1
     have HF:Hid (rv=false):=ah (HBAD.out (Gm HR.out.1 (.inr n1)));clear n0 n1 HBAD
     go_upto_region 4 with (fail)
     refine aG rfl (fun _=>True) [(0,.p),(1,.p),(2,.p),(3,.t),(4,.p),(5,.p),(6,.p),(7,.p),(8,.p),(9,.t),(10,.p),(11,.p),(12,.p),(13,.p),(14,.p),(15,.p),(16,.p),(17,.p),(18,.p),(19,.p),(20,.t),(21,.p),(22,.p),(23,.p),(24,.p),(25,.t),(26,.p),(27,.p),(28,.p)] (by kernel_rfl) ?_;have hS0:True:=trivial;refine bF ?_;refine dN ?_;clear c0
     go_wp2
     go_ret
     exact⟨by rw[HF.out];rfl,HD.out⟩
    ·have n1':decide ((i:Int)≤r)=false:=decide_eq_false n1
     have HRR:Hid (0≤r∧r<(i:Int)):=ah ⟨by omega,by omega⟩;clear n0 n1;cases k with
     | zero=>
      rw[Nat.add_zero] at c0
      go_upto_region 4 with (fail)
      refine aG rfl (fun _=>True) [(0,.p),(1,.p),(2,.p),(3,.t),(4,.p),(5,.p),(6,.p),(7,.p),(8,.p),(9,.t),(10,.p),(11,.p),(12,.p),(13,.p),(14,.p),(15,.p),(16,.p),(17,.p),(18,.p),(19,.p),(20,.t),(21,.p),(22,.p),(23,.p),(24,.p),(25,.t),(26,.p),(27,.p),(28,.p)] (by kernel_rfl) ?_;have hS0:True:=trivial;refine bF ?_;refine dN ?_;clear c0
      go_wp2
      go_roundw
      case rel=>exact⟨1,by go_num,by have:=HR.out;omega,ah (by rw[nY,HT.out,P8 HR.out.1,decide_eq_true HRR.out.1,decide_eq_true HRR.out.2];rfl),HD.out⟩
      case measure=>simp[intOf];have:=HR.out;omega
     | succ k=>
      obtain⟨q,hq⟩:∃q,l[k]?=some q:=⟨_,List.getElem?_eq_getElem (by have:=HR.out.2.2;omega)⟩
      obtain⟨b',o',e',hcj⟩:=nO HV.out hq;cases e';have c1:=hcj _ HD.out.ext;have hjw:IntKind.i64.wrap (k:Int)=(k:Int):=IntWalk.i64_in _ (by omega);have hjn:(k:Int)<(n:Int):=by omega
      have hj0:(0:Int)<(k:Int)+1:=by omega
      have hj1:(k:Int)+1<(n:Int):=by omega
      have hjz:(0:Int)≤(k:Int)+1:=by omega
      have hjt:((k:Int)+1).toNat=k+1:=by omega
      have HQ:=ah hq;clear hq hcj hltz
      by_cases n2:r≤q
      ·have n2':decide (r≤q)=true:=decide_eq_true n2
       have HF:Hid (rv=false):=ah (HBAD.out (by rw[IJ HR.out.1 HQ.out,decide_eq_false (show ¬q<r by omega)];simp));clear n2
       go_upto_region 4 with (fail)
       refine aG rfl (fun _=>True) [(0,.p),(1,.p),(2,.p),(3,.t),(4,.p),(5,.p),(6,.p),(7,.p),(8,.p),(9,.t),(10,.p),(11,.p),(12,.p),(13,.p),(14,.p),(15,.p),(16,.p),(17,.p),(18,.p),(19,.p),(20,.t),(21,.p),(22,.p),(23,.p),(24,.p),(25,.t),(26,.p),(27,.p),(28,.p)] (by kernel_rfl) ?_;have hS0:True:=trivial;refine bF ?_;refine dN ?_;clear c0 c1
       go_wp2
       go_ret
       exact⟨by rw[HF.out];rfl,HD.out⟩
      ·have n2':decide (r≤q)=false:=decide_eq_false n2
       have HQR:Hid (q<r):=ah (by omega);clear n2
       go_upto_region 4 with (fail)
       refine aG rfl (fun _=>True) [(0,.p),(1,.p),(2,.p),(3,.t),(4,.p),(5,.p),(6,.p),(7,.p),(8,.p),(9,.t),(10,.p),(11,.p),(12,.p),(13,.p),(14,.p),(15,.p),(16,.p),(17,.p),(18,.p),(19,.p),(20,.t),(21,.p),(22,.p),(23,.p),(24,.p),(25,.t),(26,.p),(27,.p),(28,.p)] (by kernel_rfl) ?_;have hS0:True:=trivial;refine bF ?_;refine dN ?_;clear c0 c1
       go_wp2
       go_roundw
       case rel=>exact⟨k+2,by go_num,by have:=HR.out;omega,ah (by rw[nY,HT.out,IJ HR.out.1 HQ.out,decide_eq_true HRR.out.1,decide_eq_true HRR.out.2,decide_eq_true HQR.out];rfl),HD.out⟩
       case measure=>simp[intOf];have:=HR.out;omega
  ·obtain rfl:k=n:=by omega
   have HS:=ah hS;have Ze:Hid (rv=true):=ah (by rw[bM.out.1];exact HT.out);clear hS H
   go_wp2
   go_ret
   exact⟨by rw[Ze.out];rfl,HS.out⟩
set_option maxRecDepth 100000 in
set_option maxHeartbeats 4000000 in
theorem kZ {W w:World} {A:aC} {I:Mem} (a:Option Addr) (n c:Nat) (l:List Cl) (hv:(kM.slice 5).rel I [.slice a n c] l) (hB:∀x∈l,x.body.size≤mg) (h:Sat W w (sep (kn I) A)):
 Calls Tryz.prog 140 #[.slice a n c] w fun e w'=>e=.returned (.int .i64 (pR l))∧Sat W w' (sep (kn I) A):=by
 have hn:=(aI hv).1;have hl63:=(aI hv).2.2;obtain⟨rv,dK⟩:=aB (pR l);rw[←dK];have bM:Hid (rv=(if 32<n then 4 else qL 0 l)∧n=l.length):=ah ⟨by rw[dK,hn];rfl,hn⟩;have HV:=ah hv;have xq:=ah hB;have H:=ah h;clear hv h dK hn hB
 by_cases h32:32<n
 ·have NJ:(32:Int)<(n:Int):=by omega
  have HF:Hid (rv=4):=ah (by rw[bM.out.1,if_pos h32]);clear h32
  go_enter Tryz.func140,Tryz.ntmps140
  go_wp2
  go_ret
  exact⟨by rw[HF.out];rfl,H.out⟩
 ·have NJ:¬(32:Int)<(n:Int):=by omega
  have HG:Hid (rv=qL 0 l):=ah (by rw[bM.out.1,if_neg h32]);have adA:(n:Int)≤32:=by omega
  clear h32
  go_enter Tryz.func140,Tryz.ntmps140
  go_upto_region 3 with (fail)
  clear NJ
  go_wp2
  go_loopw [3] (fun iv wr=>∃k:Nat,iv=.int .i64 k∧k≤n∧Hid (rv=qL k (l.drop k))∧Sat W wr (sep (kn I) A)) (fun iv _=>n-(intOf iv).toNat)
  case atStart=>exact⟨0,rfl,by omega,HG,H.out⟩
  case round=>
   obtain⟨k,rfl,hk,HT,hS⟩:=hrel
   by_cases hlt:k<n
   ·have hltz:(k:Int)<(n:Int):=by omega
    have hkl:k<l.length:=by have:=bM.out.2;omega
    obtain⟨x,hx⟩:∃x,l[k]?=some x:=⟨_,List.getElem?_eq_getElem hkl⟩
    obtain⟨b,o,ra,rc,p,q,x1,n1,c1,x2,n2,c2,rfl,hrr,hrb,hcell⟩:=uI HV.out hx;obtain⟨k0,k1,k2,k3,k4⟩:=hcell wr hS.ext;have hT:=HT.out;rw[FH hx] at hT;obtain⟨nr,hnr⟩:=aB (x.refs.length);obtain⟨rf,hrf⟩:=aB (jS x.refs k);obtain⟨be,hbe⟩:=aB (jV x.body);have hrs:=IC ra rc x.refs k hrr hS;rw[←hrf,←hnr] at hrs;have SH:=ah hrs;have hvs:∀w' A',Sat W w' (sep (kn I) A')→Calls Tryz.prog 123 #[.agg #[.int .i64 p,.int .i64 q,.slice x1 n1 c1,.slice x2 n2 c2]] w' fun e w''=>e=.returned (.int .i64 be)∧Sat W w'' (sep (kn I) A'):=fun w' A' h'=>by
     rw[hbe];exact jB x.body p q x1 n1 c1 x2 n2 c2 hrb (xq.out x (List.mem_of_getElem? hx)) h'
    have sH:=ah hvs;have HC:=ah hcell;have ZE:=(aI hrr).2.2;rw[←hnr] at hT k0 ZE;rw[←hrf,←hbe] at hT;have HT2:=ah hT;have HK:=ah hlt;have HS0:=ah hS;clear hx hrr hrb hcell hT hnr hrf hbe hrs hvs hS hlt hkl hk H HT HG
    by_cases h8:8<nr
    ·have h8z:(8:Int)<(nr:Int):=by omega
     have HF:Hid (rv=4):=ah (by rw[HT2.out,if_pos h8]);clear h8
     go_wp2
     go_ret
     exact⟨by rw[HF.out];rfl,HS0.out⟩
    ·have h8z:¬(8:Int)<(nr:Int):=by omega
     have HT3:Hid (rv=if rf=false then 1 else if be≠0 then be else qL (k+1) (l.drop (k+1))):=ah (by rw[HT2.out,if_neg h8]);clear h8 HT2
     go_wp2_with fail
     refine SH.out.mono ?_;rintro e w2 ⟨rfl,h2⟩;have H2:=ah h2;clear h2 SH k0 k1 k2 k3 k4 h8z;obtain⟨k0,k1,k2,k3,k4⟩:=HC.out w2 H2.out.ext;cases rf with
     | false=>
      have HF:Hid (rv=1):=ah (by rw[HT3.out];rfl)
      go_wp2
      go_ret
      exact⟨by rw[HF.out];rfl,H2.out⟩
     | true=>
      go_wp2_with fail
      refine (sH.out _ _ H2.out).mono ?_;rintro e w3 ⟨rfl,h3⟩;have H3:=ah h3;clear h3 H2 sH k0 k1 k2 k3 k4
      by_cases hb0:be=0
      ·have HF:Hid (rv=qL (k+1) (l.drop (k+1))):=ah (by rw[HT3.out];simp[hb0])
       subst hb0
       go_wp2
       go_roundw
       case rel=>exact⟨k+1,by go_num,by have:=HK.out;omega,HF,H3.out⟩
       case measure=>simp[intOf];have:=HK.out;omega
      ·have HF:Hid (rv=be):=ah (by rw[HT3.out];simp[hb0])
       have hb1:(be !=0)=true:=by simpa using hb0
       have hb2:(be==0)=false:=by simpa using hb0
       clear hb0
       go_wp2
       go_ret
       exact⟨by rw[HF.out];rfl,H3.out⟩
   ·obtain rfl:k=n:=by omega
    have HF:Hid (rv=0):=ah (by
     have:=HT.out;rw[List.drop_of_length_le (by have:=bM.out.2;omega)] at this;exact this)
    have HS:=ah hS;clear hS H
    go_wp2
    go_ret
    exact⟨by rw[HF.out];rfl,HS.out⟩
end Go.Proofs.YthfmaclnccdcbaaGreatDoor

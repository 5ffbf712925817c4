/- Part of a proof. -/
import Derived.Test.YthfmaclnccdcbaaGreatDoorZFO11
import Derived.Great.BuildSlice
namespace PA
open Go Go.RowKit
def je (b:Bool):Int:=if b=true then 1 else 0
def dL (x:Iv):List Int:=[x.ln,x.ld,x.hn,x.hd,je x.lo,je x.ho,je x.li,je x.hi]
def O1 (n:Int):Prop:=-9223372036854775808≤n∧n≤9223372036854775807
theorem CU (b:Bool):O1 (je b):=by cases b<;>exact⟨by decide,by decide⟩
end PA
namespace Go.Proofs.YthfmaclnccdcbaaGreatDoor
open Go.RowKit PA
theorem qE (b:Bool) (w:World):Calls Tryz.prog 205 #[.bool b] w fun e w'=>e=.returned (.int .i64 (je b))∧w=w':=by
 cases b with
 | false=>
  go_enter Tryz.func205,Tryz.ntmps205;go_wp2;go_ret;exact⟨rfl,rfl⟩
 | true=>
  go_enter Tryz.func205,Tryz.ntmps205;go_wp2;go_ret;exact⟨rfl,rfl⟩
theorem Nh:(Tryz.prog.info? 3).map (fun i=>(i.zero,i.size,i.bytes))=some (some (.int .i64 0),1,8):=by kernel_rfl
def aar (n:Nat) (p:Array (Nat×Value)):Sem Value:=Instr.buildSlice 22 n p
theorem uD (n:Nat) (p:Array (Nat×Value)):Instr.buildSlice 22 n p=aar n p:=rfl
theorem VT (w:World) (a b c d e f g h:Int):(aar 8 #[(0,.int .i64 a),(1,.int .i64 b),(2,.int .i64 c),(3,.int .i64 d),(4,.int .i64 e),(5,.int .i64 f),(6,.int .i64 g),(7,.int .i64 h)]).run Tryz.prog w=.ok (.slice (some ⟨w.heap.size,0,none⟩) 8 8) (w.alloc (.cells #[.int .i64 a,.int .i64 b,.int .i64 c,.int .i64 d,.int .i64 e,.int .i64 f,.int .i64 g,.int .i64 h] 3)):=by
 obtain⟨i,h1,h2,h3,h4⟩:=info_parts Nh;exact run_buildSlice w 22 3 8 _ _ i _ Tryz.underlying22 h1 h2 (by rw[h3];omega) (by rw[h3];omega) (by rw[h3];kernel_rfl)
attribute [local go_sem ↓] uD
set_option maxHeartbeats 2000000 in
theorem EZ {W w:World} {A:aB} (x:Iv) (h64:∀r∈dL x,-9223372036854775808≤r∧r≤9223372036854775807) (h:Sat W w A):
 Calls Tryz.prog 178 #[.agg (Hw x)] w fun e w'=>∃a c,e=.returned (.slice a (gu (dL x)).length c)∧Sat W w' (sep (aT 5 1 a (gu (dL x)).length c ((gu (dL x)).map bv)) A):=by
 obtain⟨E,hE⟩:=aC (gu (dL x));rw[←hE];obtain⟨ln,ld,hn,hd,lo,ho,li,hi⟩:=x;have h1:=h.alloc (.cells #[.int .i64 ln,.int .i64 ld,.int .i64 hn,.int .i64 hd,.bool lo,.bool ho,.bool li,.bool hi] 159);obtain⟨B,hB⟩:=aC (w.heap.size);obtain⟨w1,hw1⟩:=aC (w.alloc (.cells #[.int .i64 ln,.int .i64 ld,.int .i64 hn,.int .i64 hd,.bool lo,.bool ho,.bool li,.bool hi] 159));rw[←hB,←hw1] at h1;have HB:=ah (aH hB hw1);have h2:=h1.drew;obtain⟨wd,hwd⟩:=aC (w1.drew);rw[←hwd] at h2;have HW:=ah hwd;have HE:=ah hE;have H64:=ah h64;have c0:wd.cell? ⟨B,0,none⟩=some (.int .i64 ln):=by rw[h2.cell 0];rfl
 have c1:wd.cell? ⟨B,1,none⟩=some (.int .i64 ld):=by rw[h2.cell 1];rfl
 have c2:wd.cell? ⟨B,2,none⟩=some (.int .i64 hn):=by rw[h2.cell 2];rfl
 have c3:wd.cell? ⟨B,3,none⟩=some (.int .i64 hd):=by rw[h2.cell 3];rfl
 have c4:wd.cell? ⟨B,4,none⟩=some (.bool lo):=by rw[h2.cell 4];rfl
 have c5:wd.cell? ⟨B,5,none⟩=some (.bool ho):=by rw[h2.cell 5];rfl
 have c6:wd.cell? ⟨B,6,none⟩=some (.bool li):=by rw[h2.cell 6];rfl
 have c7:wd.cell? ⟨B,7,none⟩=some (.bool hi):=by rw[h2.cell 7];rfl
 have H2:=ah h2.drop;clear h h1 h2 hB hw1 hwd hE h64;unfold Hw;go_enter Tryz.func178,Tryz.ntmps178;go_upto_region 1 with fail;rw[←HB.out.1,←HB.out.2];refine aG rfl (fun w'=>w'.cell? ⟨B,0,none⟩=some (.int .i64 ln)∧w'.cell? ⟨B,1,none⟩=some (.int .i64 ld)∧w'.cell? ⟨B,2,none⟩=some (.int .i64 hn)∧w'.cell? ⟨B,3,none⟩=some (.int .i64 hd)∧w'.cell? ⟨B,4,none⟩=some (.bool lo)∧w'.cell? ⟨B,5,none⟩=some (.bool ho)∧w'.cell? ⟨B,6,none⟩=some (.bool li)∧w'.cell? ⟨B,7,none⟩=some (.bool hi)) [(0,.p),(1,.p),(2,.s),(3,.p),(4,.p),(5,.s),(6,.p),(7,.p),(8,.s),(9,.p),(10,.p),(11,.s),(12,.p),(13,.t),(15,.p),(16,.s),(18,.p),(19,.s),(21,.p),(22,.s),(14,.e true),(17,.e true),(20,.e true),(23,.e true),(24,.e false),(25,.e false),(26,.p)] (by kernel_rfl) ?_;rw[←HW.out];have hS0:=aH c0 (aH c1 (aH c2 (aH c3 (aH c4 (aH c5 (aH c6 c7))))));refine bG ?_
 (refine jJ rfl rfl (fun K hK=>?_);go_simp)
 refine (qE _ _).mono ?_;rintro e w2 ⟨rfl,rfl⟩
 (refine hK _ _ (fun _=>hS0) ?_;clear hK K;(try simp only[Act.put,lsA,lsB,lq]))
 (refine jJ rfl rfl (fun K hK=>?_);go_simp)
 refine (qE _ _).mono ?_;rintro e w2 ⟨rfl,rfl⟩
 (refine hK _ _ (fun _=>hS0) ?_;clear hK K;(try simp only[Act.put,lsA,lsB,lq]))
 (refine jJ rfl rfl (fun K hK=>?_);go_simp)
 refine (qE _ _).mono ?_;rintro e w2 ⟨rfl,rfl⟩
 (refine hK _ _ (fun _=>hS0) ?_;clear hK K;(try simp only[Act.put,lsA,lsB,lq]))
 (refine jJ rfl rfl (fun K hK=>?_);go_simp)
 refine (qE _ _).mono ?_;rintro e w2 ⟨rfl,rfl⟩
 (refine hK _ _ (fun _=>hS0) ?_;clear hK K;(try simp only[Act.put,lsA,lsB,lq]))
 have hbs:=VT wd ln ld hn hd (je lo) (je ho) (je li) (je hi);have hA:=H2.out.alloc (.cells #[.int .i64 ln,.int .i64 ld,.int .i64 hn,.int .i64 hd,.int .i64 (je lo),.int .i64 (je ho),.int .i64 (je li),.int .i64 (je hi)] 3);obtain⟨G,hG⟩:=aC (wd.heap.size);obtain⟨we,hwe⟩:=aC (wd.alloc (.cells #[.int .i64 ln,.int .i64 ld,.int .i64 hn,.int .i64 hd,.int .i64 (je lo),.int .i64 (je ho),.int .i64 (je li),.int .i64 (je hi)] 3));rw[←hG,←hwe] at hbs hA;have hcall:=E5 (some ⟨G,0,none⟩) 8 8 (dL ⟨ln,ld,hn,hd,lo,ho,li,hi⟩) rfl (by simp[dL]) H64.out (fun w' B' hs k r hr=>⟨G,0,rfl,by
  have hc:=hs.p1.cell k;rw[Nat.zero_add,hc]
  match k,hr with
  | 0,hr|1,hr|2,hr|3,hr|4,hr|5,hr|6,hr|7,hr=>simp[dL] at hr;subst hr;rfl
  | k+8,hr=>simp[dL] at hr⟩) hA
 rw[←HE.out] at hcall;have HC:=ah hcall;clear hA hcall hG hwe c0 c1 c2 c3 c4 c5 c6 c7 H2 hS0
 (refine jJ rfl rfl (fun K hK=>?_);go_simp)
 refine dY ?_;clear hK K
 (refine jJ rfl rfl (fun K hK=>?_);go_simp)
 refine HC.out.mono ?_;rintro e w3 ⟨a,c,rfl,h3⟩;have H3:=ah h3.p1.drop;clear h3 HC;refine dY ?_;clear hK K;refine bG ?_;refine dJ ?_;go_wp2;go_ret;exact⟨a,c,rfl,H3.out⟩
end Go.Proofs.YthfmaclnccdcbaaGreatDoor
namespace PA
open Go Go.RowKit
def dU (l:List Iv):List UInt8:=(l.map fun x=>gu (dL x)).flatten
mutual
def dw:Fm→List UInt8
 | .mk o n i k=>PA.encI o++PA.encI n++PA.encI i.length++dU i++PA.encI k.length++eY k
def eY:List Fm→List UInt8
 | []=>[]
 | f::l=>dw f++eY l
end
theorem LY (l:List Fm) (f:Fm):eY (l++[f])=eY l++dw f:=by
 induction l with
 | nil=>simp[eY]
 | cons g l ih=>rw[pV,eY,eY,ih,kZ]
theorem LZ {l:List Fm} {j:Nat} {g:Fm} (h:l[j]?=some g):eY (l.take (j+1))=eY (l.take j)++dw g:=by
 rw[List.take_add_one,h];exact LY _ _
theorem TK (l:List Fm) (j:Nat):(eY (l.take j)).length≤(eY l).length:=by
 induction l generalizing j with
 | nil=>simp
 | cons g l ih=>
  cases j with
  | zero=>simp[eY]
  | succ j=>rw[List.take_succ_cons,eY,eY,dM,dM];have:=ih j;omega
theorem Ba {l:List Iv} {j:Nat} {g:Iv} (h:l[j]?=some g):dU (l.take (j+1))=dU (l.take j)++gu (dL g):=by
 unfold dU;rw[List.take_add_one,h];simp
theorem Hg (l:List Iv) (j:Nat):(dU (l.take j)).length≤(dU l).length:=by
 induction l generalizing j with
 | nil=>simp
 | cons g l ih=>
  cases j with
  | zero=>simp[dU]
  | succ j=>
   have:=ih j;unfold dU at this ⊢;rw[List.take_succ_cons,mM,mM,List.flatten_cons,List.flatten_cons,dM,dM];omega
mutual
def Fm.n64:Fm→Prop
 | .mk o n i k=>O1 o∧O1 n∧(∀x∈i,∀r∈PA.dL x,-9223372036854775808≤r∧r≤9223372036854775807)∧Fm.EC k
def Fm.EC:List Fm→Prop
 | []=>True
 | f::l=>Fm.n64 f∧Fm.EC l
end
theorem Fm.Nv {l:List Fm} (h:Fm.EC l) {f:Fm} (hf:f∈l):Fm.n64 f:=by
 induction l with
 | nil=>cases hf
 | cons g l ih=>
  rw[Fm.EC] at h;rcases List.mem_cons.1 hf with rfl|hf
  ·exact h.1
  ·exact ih h.2 hf
end PA
namespace Go.Proofs.YthfmaclnccdcbaaGreatDoor
open Go.RowKit PA
theorem uvarint_pos (x:Nat):0<(Lib.uvarint x).length:=by
 rcases (show x<128∨128≤x by omega) with h|h
 ·rw[Lib.uvarint_small h];simp
 ·rw[Lib.uvarint_big h];simp
set_option maxHeartbeats 4000000 in
theorem wW {W:World} {I:Mem} (f:Fm):∀(w:World) (A:aB) (p q:Int) (x1:Option Addr) (n1 c1:Nat) (x2:Option Addr) (n2 c2:Nat),rF.rel I [.int .i64 p,.int .i64 q,.slice x1 n1 c1,.slice x2 n2 c2] f→f.n64→(dw f).length≤268435456→Sat W w (sep (kn I) A) →
 Calls Tryz.prog 139 #[.agg #[.int .i64 p,.int .i64 q,.slice x1 n1 c1,.slice x2 n2 c2]] w fun e w'=>∃a c,e=.returned (.slice a (dw f).length c)∧Sat W w' (sep (aT 5 1 a (dw f).length c ((dw f).map bv)) (sep (kn I) A)):=by
 refine Fm.ind (P:=fun f=>∀(w:World) (A:aB) (p q:Int) (x1:Option Addr) (n1 c1:Nat) (x2:Option Addr) (n2 c2:Nat),rF.rel I [.int .i64 p,.int .i64 q,.slice x1 n1 c1,.slice x2 n2 c2] f→f.n64→(dw f).length≤268435456→Sat W w (sep (kn I) A) →
  Calls Tryz.prog 139 #[.agg #[.int .i64 p,.int .i64 q,.slice x1 n1 c1,.slice x2 n2 c2]] w fun e w'=>∃a c,e=.returned (.slice a (dw f).length c)∧Sat W w' (sep (aT 5 1 a (dw f).length c ((dw f).map bv)) (sep (kn I) A))) (fun o n i k ih=>?_) f
 intro w A p q x1 n1 c1 x2 n2 c2 hr h64 hlen h;obtain⟨x1',c1',x2',c2',e,hi,hk⟩:=dW.1 hr;simp only[List.cons.injEq,Value.int.injEq,Value.slice.injEq,true_and,and_true] at e;obtain⟨rfl,rfl,⟨rfl,rfl,rfl⟩,⟨rfl,rfl,rfl⟩⟩:=e;rw[Fm.n64] at h64;have h1:=h.alloc (.cells #[.int .i64 p,.int .i64 q,.slice x1 i.length c1,.slice x2 k.length c2] 34);obtain⟨B,hB⟩:=aC (w.heap.size);obtain⟨w1,hw1⟩:=aC (w.alloc (.cells #[.int .i64 p,.int .i64 q,.slice x1 i.length c1,.slice x2 k.length c2] 34));rw[←hB,←hw1] at h1;have HB:=ah (aH hB hw1);have h2:=h1.drew;obtain⟨wd,hwd⟩:=aC (w1.drew);rw[←hwd] at h2;have HW:=ah hwd;have uP:=(aJ hk).2.2;have WA:=(aJ hi).2.2;have hin:i.length≤268435456:=by
  have key:∀l:List Iv,l.length≤(dU l).length:=by
   intro l
   induction l with
   | nil=>simp
   | cons g l ih=>
    unfold dU at ih ⊢;rw[mM,List.flatten_cons,dM,oP];have:1≤(gu (dL g)).length:=by
     unfold gu;rw[dM];have:0<(Lib.uvarint (dL g).length).length:=List.length_pos_iff.2 (by rw[Lib.uvarint_small (by simp[dL])];simp);omega
    omega
  have:=key i;rw[dw] at hlen;simp only[dM] at hlen;omega
 have hkn:k.length≤268435456:=by
  have key:∀l:List Fm,l.length≤(eY l).length:=by
   intro l
   induction l with
   | nil=>simp
   | cons g l ih=>
    rw[eY,dM,oP];have:1≤(dw g).length:=by
     obtain⟨a,b,c,d⟩:=g;rw[dw];simp only[dM];have:0<(PA.encI a).length:=by unfold PA.encI;exact uvarint_pos _
     omega
    omega
  have:=key k;rw[dw] at hlen;simp only[dM] at hlen;omega
 obtain⟨E,hE⟩:=aC (dw (.mk p q i k));rw[←hE] at hlen ⊢;obtain⟨V,hV⟩:∃V:Nat→List UInt8,V=fun j=>PA.encI p++PA.encI q++PA.encI i.length++dU (i.take j):=⟨_,rfl⟩
 obtain⟨D,hD⟩:∃D:Nat→List UInt8,D=fun j=>PA.encI p++PA.encI q++PA.encI i.length++dU i++PA.encI k.length++eY (k.take j):=⟨_,rfl⟩
 have hV0:V 0=PA.encI p++PA.encI q++PA.encI i.length:=by rw[hV];simp[dU]
 have BM:∀j g,i[j]?=some g→V (j+1)=V j++gu (dL g):=fun j g hg=>by rw[hV];simp only;rw[Ba hg];simp only[kZ]
 have hVd:D 0=V i.length++PA.encI k.length:=by rw[hD,hV];simp[eY]
 have hDs:∀j g,k[j]?=some g→D (j+1)=D j++dw g:=fun j g hg=>by rw[hD];simp only;rw[LZ hg];simp only[kZ]
 have hDe:D k.length=E:=by rw[hD,hE,dw];simp
 have hEl:E.length=(PA.encI p).length+(PA.encI q).length+(PA.encI i.length).length+(dU i).length+(PA.encI k.length).length+(eY k).length:=by rw[hE,dw];simp only[dM]
 have BL:∀j,(V j).length≤268435456:=fun j=>by rw[hV];simp only[dM];have:=Hg i j;omega
 have hDl:∀j,(D j).length≤268435456:=fun j=>by rw[hD];simp only[dM];have:=TK k j;omega
 obtain⟨nk,hnk⟩:=aC (k.length);obtain⟨ni,hni⟩:=aC (i.length);rw[←hni] at hV0 hVd hi WA hin h2;rw[←hnk] at hVd hDe hk uP hkn h2;simp only[←hni,←hnk] at HB ⊢;obtain⟨X,hX⟩:=aC (sep (blk B (.cells #[.int .i64 p,.int .i64 q,.slice x1 ni c1,.slice x2 nk c2] 34 (0,0))) (sep (kn I) A));have HX:=ah hX;have HC:Hid (∀w' Y,Sat W w' (sep Y X)→w'.cell? ⟨B,0,none⟩=some (.int .i64 p)∧w'.cell? ⟨B,1,none⟩=some (.int .i64 q)∧w'.cell? ⟨B,2,none⟩=some (.slice x1 ni c1)∧w'.cell? ⟨B,3,none⟩=some (.slice x2 nk c2)):=ah fun w' Y h'=>by rw[hX] at h';exact lH h'.drop
 obtain⟨c0,c1',-,-⟩:=lH h2;rw[←hX] at h2;have FZ:Hid (∀w' Y,Sat W w' (sep Y X)→Ext I w'):=ah fun w' Y h'=>by rw[hX] at h';exact h'.drop.p1.ext
 obtain⟨Z,hZ⟩:=aC (sep (blk B (.cells #[.int .i64 p,.int .i64 q,.slice x1 ni c1,.slice x2 nk c2] 34 (0,0))) A);have HPM:Hid ((∀w' Y,Sat W w' (sep Y X)→Sat W w' (sep (kn I) (sep Y Z)))∧(∀w' O Y,Sat W w' (sep O (sep (kn I) (sep Y Z)))→Sat W w' (sep O (sep Y X)))∧(∀w' Y,Sat W w' (sep Y X)→Sat W w' (sep Y (sep (kn I) A)))):=ah ⟨fun w' Y h'=>by rw[hX] at h';rw[hZ];simpa only[aA,au,aj] using h',fun w' O Y h'=>by rw[hZ] at h';rw[hX];simpa only[aA,au,aj] using h',fun w' Y h'=>by rw[hX] at h';exact Sat.drop (by simpa only[aA,au,aj] using h':Sat W w' (sep (blk B (.cells #[.int .i64 p,.int .i64 q,.slice x1 ni c1,.slice x2 nk c2] 34 (0,0))) (sep Y (sep (kn I) A))))⟩;have H2:=ah h2;have HP:=ah h64;have HIH:=ah ih;have HI:=ah hi;have HK:=ah hk;have HN:=ah (aH hnk hni);have vw:=ah (aH hkn hin);have HV:=ah (aH hV0 (aH BM (aH hVd (aH hDs hDe))));have HL:=ah (aH BL hDl);obtain⟨Po,dS⟩:∃P:Ending→World→Prop,P=fun e w'=>∃a c,e=.returned (.slice a E.length c)∧Sat W w' (sep (aT 5 1 a E.length c (E.map bv)) (sep (kn I) A)):=⟨_,rfl⟩
 rw[←dS];have bK:=ah dS;clear hr h64 hlen h hi hk h1 h2 hB hw1 hwd hin hkn hE hV hD hV0 BM hVd hDs hDe hEl BL hDl hnk hni hX ih dS;go_enter Tryz.func139,Tryz.ntmps139;go_upto_region 1 with fail;rw[←HB.out.1,←HB.out.2];refine aG rfl (fun w'=>w'.cell? ⟨B,1,none⟩=some (.int .i64 q)) [(0,.p),(1,.t),(3,.p),(4,.s),(2,.e true),(5,.e false),(6,.e false),(7,.p)] (by kernel_rfl) ?_;rw[←HW.out];have hS0:wd.cell? ⟨B,1,none⟩=some (.int .i64 q):=c1';refine bG ?_
 (refine jJ rfl rfl (fun K hK=>?_);go_simp)
 refine (iT p HP.out.1.1 HP.out.1.2 H2.out).mono ?_;rintro e w2 ⟨a1,d1,rfl,h3⟩;have hS0:=(HC.out _ _ h3).2.1
 (refine hK _ _ (fun _=>hS0) ?_;clear hK K;(try simp only[Act.put,lsA,lsB,lq]))
 obtain⟨m1,hm1⟩:=aC ((PA.encI p).length);obtain⟨v1,hv1⟩:=aC ((PA.encI p).map bv);have hb1:=eP HP.out.1.1 HP.out.1.2;have hb2:=eP HP.out.2.1.1 HP.out.2.1.2;rw[←hm1,←hv1] at h3;rw[←hm1] at hb1 ⊢;have H3:=ah h3;have HM1:=ah (aH hm1 hv1);clear h3 hm1 hv1 c0 c1' H2
 (refine jJ rfl rfl (fun K hK=>?_);go_simp)
 refine (iT q HP.out.2.1.1 HP.out.2.1.2 H3.out).mono ?_;rintro e w3 ⟨a2,d2,rfl,h4⟩;have mQ:=ah (jC h4);have h5:=h4.drop;obtain⟨m2,hm2⟩:=aC ((PA.encI q).length);obtain⟨v2,hv2⟩:=aC ((PA.encI q).map bv);rw[←hm2,←hv2] at mQ;rw[←hm2] at hb2 ⊢;have tu:=ah (aH hm2 hv2);clear h4 hm2 hv2 H3 hS0;refine dY ?_;clear hK K;refine jJ rfl rfl (fun K hK=>?_);refine jS (.tmp 8) (.tmp 11) 51 rfl 5 1 1 (.int .u8 0) Tryz.underlying51 fB rfl rfl h5 rfl v2 mQ.out.len mQ.out.nil mQ.out.src mQ.out.one (by omega) (by unfold maxLen;omega) ?_;intro a3 d3 w4 h6;clear mQ h5;have H6:=ah h6;have hmm:m1+m2≤20:=by omega
 clear h6 hb1 hb2;refine dY ?_;clear hK K;refine bG ?_;refine dJ ?_;obtain⟨-,-,c2,-⟩:=HC.out _ _ H6.out;go_upto_region 2 with fail;go_wp2_with fail;refine (iT (ni:Int) (by have:=vw.out;omega) (by have:=vw.out;omega) H6.out).mono ?_;rintro e w5 ⟨a4,d4,rfl,h7⟩;have mQ:=ah (jC h7);have h8:=h7.drop;have hb4:=eP (r:=(ni:Int)) (by have:=vw.out;omega) (by have:=vw.out;omega);obtain⟨m4,hm4⟩:=aC ((PA.encI ni).length);obtain⟨v4,hv4⟩:=aC ((PA.encI ni).map bv);rw[←hm4,←hv4] at mQ;rw[←hm4] at hb4 ⊢;have HM4:=ah (aH hm4 hv4);clear h7 hm4 hv4 H6 c2;go_wp2_with (at_builtin;(refine aK rfl (.tmp 13) (.tmp 17) 51 rfl 5 1 1 (.int .u8 0) Tryz.underlying51 fB rfl rfl h8 rfl v4 mQ.out.len mQ.out.nil mQ.out.src mQ.out.one (by omega) (by unfold maxLen;omega) ?_))
 intro a5 d5 w6 h9;have H9:=ah h9;clear h8 h9 mQ;have hEV:m1+m2+m4=(V 0).length∧v1++(v2++v4)=(V 0).map bv:=by
  rw[HV.out.1,HM1.out.1,HM1.out.2,tu.out.1,tu.out.2,HM4.out.1,HM4.out.2];exact⟨by simp only[dM],by simp only[qy,kZ]⟩
 have HEV:=ah hEV;clear hEV hmm hb4;go_wp2_with fail;go_loopw [3,4] (fun ov kv wr=>∃(k:Nat) (a':Option Addr) (n' c':Nat) (vs:List Value),ov=.slice a' n' c'∧kv=.int .i64 k∧k≤ni∧Hid (n'=(V k).length∧vs=(V k).map bv)∧Sat W wr (sep (aT 5 1 a' n' c' vs) X)) (fun _ kv _=>ni-(intOf kv).toNat)
 case atStart=>exact⟨0,a5,_,d5,_,rfl,rfl,by omega,HEV,H9.out⟩
 case round=>
  obtain⟨j,a',n',c',vs',rfl,rfl,hj,HVV,hS⟩:=hrel;clear H9;obtain⟨-,-,c2,-⟩:=HC.out _ _ hS;by_cases hlt:j<ni
  ·have hltz:(j:Int)<(ni:Int):=by omega
   obtain⟨g,hg⟩:∃g,i[j]?=some g:=⟨_,iM (by have:=HN.out;omega)⟩
   obtain⟨b,o,rfl,hcell⟩:=vU HI.out hg;obtain⟨k0,k1,k2,k3,k4,k5,k6,k7⟩:=hcell wr (FZ.out _ _ hS);have hcall:=EZ g (fun r hr=>HP.out.2.2.1 g (mZ hg) r hr) hS;have hb2:(gu (dL g)).length≤90:=by
    have:=vK (l:=dL g) (by simp[dL]) (fun r hr=>HP.out.2.2.1 g (mZ hg) r hr) (dL g).length;rw[qV] at this;simp[dL] at this ⊢;omega
   obtain⟨m2',hm2⟩:=aC ((gu (dL g)).length);obtain⟨us,hus⟩:=aC ((gu (dL g)).map bv);rw[←hm2,←hus] at hcall;rw[←hm2] at hb2;unfold Hw at hcall;have Z5:=ah hcall;have hnb:n'≤268435456:=by rw[HVV.out.1];exact HL.out.1 j
   have HB2:=ah (aH hnb hb2);have rP:Hid (V (j+1)=V j++gu (dL g)∧j<ni):=ah ⟨HV.out.2.1 j g hg,hlt⟩;have HU:=ah (aH hm2 hus);clear hg hcell hcall hb2 hnb hm2 hus hlt hj hS;go_upto_region 6 with fail;go_wp2_with fail;refine Z5.out.mono ?_;rintro e w3 ⟨a2',c2',rfl,h3⟩;clear Z5 k0 k1 k2 k3 k4 k5 k6 k7 c2;have mQ:Hid (pX w3 a2' m2' us):=ah (by rw[HU.out.2,HU.out.1] at h3 ⊢;exact jC h3);have h4:=h3.drop;clear h3;go_wp2_with (at_builtin;(refine aK rfl (.tmp 26) (.tmp 32) 51 rfl 5 1 1 (.int .u8 0) Tryz.underlying51 fB rfl rfl h4 rfl us mQ.out.len mQ.out.nil mQ.out.src mQ.out.one (by have:=HB2.out;omega) (by have:=HB2.out;unfold maxLen;omega) ?_))
   intro a4' c4' w5' h5;have H5:=ah h5;clear h4 h5 mQ;go_wp2_with fail;go_roundw;case rel=>
    refine⟨j+1,a4',n'+m2',c4',_,rfl,by go_num,by have:=rP.out.2;omega,ah ⟨?_,?_⟩,H5.out⟩
    ·rw[rP.out.1,dM,HVV.out.1,HU.out.1]
    ·rw[rP.out.1,qy,HVV.out.2,HU.out.2]
   case measure=>simp[intOf];have:=rP.out.2;omega
  ·obtain rfl:j=ni:=by omega
   have HS:=ah hS;obtain⟨-,-,-,c3⟩:=HC.out _ _ hS;have hnb:n'≤268435456:=by rw[HVV.out.1];exact HL.out.1 j
   clear hS hlt hj;go_upto_region 7 with fail;go_wp2_with fail;refine (iT (nk:Int) (by have:=vw.out;omega) (by have:=vw.out;omega) HS.out).mono ?_;rintro e w3 ⟨a2',c2',rfl,h3⟩;have mQ:=ah (jC h3);have h4:=h3.drop;have hb5:=eP (r:=(nk:Int)) (by have:=vw.out;omega) (by have:=vw.out;omega);obtain⟨m5,hm5⟩:=aC ((PA.encI nk).length);obtain⟨v5,hv5⟩:=aC ((PA.encI nk).map bv);rw[←hm5,←hv5] at mQ;rw[←hm5] at hb5 ⊢;have HM5:=ah (aH hm5 hv5);clear h3 hm5 hv5 HS c2 c3;go_wp2_with (at_builtin;(refine aK rfl (.tmp 34) (.tmp 38) 51 rfl 5 1 1 (.int .u8 0) Tryz.underlying51 fB rfl rfl h4 rfl v5 mQ.out.len mQ.out.nil mQ.out.src mQ.out.one (by omega) (by unfold maxLen;omega) ?_))
   intro a6 d6 w7 h10;have KD:=ah h10;have HED:Hid (n'+m5=(D 0).length∧vs'++v5=(D 0).map bv):=ah (by
    rw[HV.out.2.2.1,HVV.out.1,HVV.out.2,HM5.out.1,HM5.out.2,dM,qy];exact⟨rfl,rfl⟩)
   clear h4 h10 mQ hb5 hnb;go_wp2_with fail;go_loopw [3,5] (fun ov kv wr=>∃(k:Nat) (a':Option Addr) (n' c':Nat) (vs:List Value),ov=.slice a' n' c'∧kv=.int .i64 k∧k≤nk∧Hid (n'=(D k).length∧vs=(D k).map bv)∧Sat W wr (sep (aT 5 1 a' n' c' vs) X)) (fun _ kv _=>nk-(intOf kv).toNat)
   case atStart=>exact⟨0,a6,_,d6,_,rfl,rfl,by omega,HED,KD.out⟩
   case round=>
    obtain⟨t,a'',n'',c'',vs'',rfl,rfl,hj,Z7,hS⟩:=hrel;clear KD;obtain⟨-,-,-,c3⟩:=HC.out _ _ hS;by_cases hlt:t<nk
    ·have hltz:(t:Int)<(nk:Int):=by omega
     obtain⟨g,hg⟩:∃g,k[t]?=some g:=⟨_,iM (by have:=HN.out;omega)⟩
     obtain⟨b,o,p',q',y1,e1,d1,y2,e2,d2,rfl,hgr,hcell⟩:=gY HK.out hg;have hmem:g∈k:=mZ hg;obtain⟨j0,j1,j2,j3⟩:=hcell wr (FZ.out _ _ hS);have hlg:(dw g).length≤268435456:=by
      have h1:=HV.out.2.2.2.1 t g hg;have h2:=HL.out.2 (t+1);rw[h1,dM] at h2;omega
     have hcall:=HIH.out g hmem wr _ p' q' y1 e1 d1 y2 e2 d2 hgr (Fm.Nv HP.out.2.2.2 hmem) hlg (HPM.out.1 _ _ hS);obtain⟨m6,hm6⟩:=aC ((dw g).length);obtain⟨us,hus⟩:=aC ((dw g).map bv);have HU:=ah (aH hm6 hus);rw[←hm6,←hus] at hcall;rw[←hm6] at hlg;have Z5:=ah hcall;have hnb:n''≤268435456:=by rw[Z7.out.1];exact HL.out.2 t
     have HB2:=ah (aH hnb hlg);have rP:Hid (D (t+1)=D t++dw g∧t<nk):=ah ⟨HV.out.2.2.2.1 t g hg,hlt⟩;clear hgr hcell hmem hlg hcall hg hS hlt hj hnb hm6 hus;go_upto_region 11 with fail;go_wp2_with fail;refine Z5.out.mono ?_;rintro e w3' ⟨a7,d7,rfl,h11⟩;clear Z5 j0 j1 j2 j3 c3;have mQ:Hid (pX w3' a7 m6 us):=ah (by rw[HU.out.2,HU.out.1] at h11 ⊢;exact jC h11);have h12:=(HPM.out.2.1 _ _ _ h11).drop;clear h11;go_wp2_with (at_builtin;(refine aK rfl (.tmp 47) (.tmp 53) 51 rfl 5 1 1 (.int .u8 0) Tryz.underlying51 fB rfl rfl h12 rfl us mQ.out.len mQ.out.nil mQ.out.src mQ.out.one (by have:=HB2.out;omega) (by have:=HB2.out;unfold maxLen;omega) ?_))
     intro a8 d8 w8 h13;have XQ:=ah h13;clear h12 h13 mQ;go_wp2_with fail;go_roundw;case rel=>
      refine⟨t+1,a8,n''+m6,d8,_,rfl,by go_num,by have:=rP.out.2;omega,ah ⟨?_,?_⟩,XQ.out⟩
      ·rw[rP.out.1,dM,Z7.out.1,HU.out.1]
      ·rw[rP.out.1,qy,Z7.out.2,HU.out.2]
     case measure=>simp[intOf];have:=rP.out.2;omega
    ·obtain rfl:t=nk:=by omega
     have HF:Hid (n''=E.length∧vs''=E.map bv):=ah (by
      have:=HV.out.2.2.2.2;rw[←this];exact Z7.out)
     have HS:=ah (HPM.out.2.2 _ _ hS);clear hS Z7 hlt hj;go_wp2;rw[bK.out];exact⟨a'',c'',by rw[←HF.out.1];try rfl,by rw[←HF.out.1,←HF.out.2];exact HS.out⟩
end Go.Proofs.YthfmaclnccdcbaaGreatDoor
namespace PA
open Go Go.RowKit
def gK (f:Fm):List UInt8:=if kQ f=0 then dw f else []
theorem sD {I J:Mem} {w:World} (hl:Mem.le I J) (h:Ext J w):Ext I w:=fun b o hb=>h b o (hl b o hb)
theorem jq (I:Mem):bZ.rel I [.slice none 0 0] []:=
 vG.2 ⟨none,0,rfl,⟨Nat.le_refl _,Nat.zero_le _,fun _=>rfl⟩,.inl rfl⟩
end PA
namespace Go.Proofs.YthfmaclnccdcbaaGreatDoor
open Go.RowKit PA
theorem iK {W w:World} {A:aB} {I:Mem} {a:Option Addr} {l c:Nat} {gb:List UInt8} (h:Sat W w (sep (aT 5 1 a l c (gb.map bv)) (sep (kn I) A))) (hl:l=gb.length):∃J,Mem.le I J∧bZ.rel J [.slice a l c] gb∧Sat W w (sep (kn J) A):=by
 subst hl;exact h.Ja.2.learn
set_option maxHeartbeats 2000000 in
theorem uV {W w:World} {A:aB} {I:Mem} (f:Fm) (p q:Int) (x1:Option Addr) (n1 c1:Nat) (x2:Option Addr) (n2 c2:Nat) (hr:rF.rel I [.int .i64 p,.int .i64 q,.slice x1 n1 c1,.slice x2 n2 c2] f) (hsz:f.size≤nN) (h64:f.n64) (hlen:(dw f).length≤268435456) (h:Sat W w (sep (kn I) A)):
 Calls Tryz.prog 83 #[.agg #[.int .i64 p,.int .i64 q,.slice x1 n1 c1,.slice x2 n2 c2]] w fun e w'=>∃(a:Option Addr) (n c:Nat) (J:Mem),e=.returned (.tuple #[.slice a n c,.int .i64 (kQ f)])∧Mem.le I J∧bZ.rel J [.slice a n c] (gK f)∧Sat W w' (sep (kn J) A):=by
 have h1:=h.alloc (.cells #[.int .i64 p,.int .i64 q,.slice x1 n1 c1,.slice x2 n2 c2] 34);obtain⟨B,hB⟩:=aC (w.heap.size);obtain⟨w1,hw1⟩:=aC (w.alloc (.cells #[.int .i64 p,.int .i64 q,.slice x1 n1 c1,.slice x2 n2 c2] 34));rw[←hB,←hw1] at h1;obtain⟨k0,k1,k2,k3⟩:=lH h1;have HB:=ah (aH hB hw1);have H1:=ah h1;obtain⟨rv,dQ⟩:=aC (kQ f);obtain⟨E,hE⟩:=aC (gK f);have wF:Hid (∀w' A',Sat W w' (sep (kn I) A')→Calls Tryz.prog 123 #[.agg #[.int .i64 p,.int .i64 q,.slice x1 n1 c1,.slice x2 n2 c2]] w' fun e w''=>e=.returned (.int .i64 rv)∧Sat W w'' (sep (kn I) A')):=ah fun w' A' h'=>by rw[dQ];exact jR f p q x1 n1 c1 x2 n2 c2 hr hsz h'
 have U5:Hid (rv=0→∀w' A',Sat W w' (sep (kn I) A')→Calls Tryz.prog 139 #[.agg #[.int .i64 p,.int .i64 q,.slice x1 n1 c1,.slice x2 n2 c2]] w' fun e w''=>∃(a:Option Addr) (n c:Nat) (J:Mem),e=.returned (.slice a n c)∧Mem.le I J∧bZ.rel J [.slice a n c] E∧Sat W w'' (sep (kn J) A')):=ah fun h0 w' A' h'=>by
  refine (wW f w' A' p q x1 n1 c1 x2 n2 c2 hr h64 hlen h').mono ?_;rintro e w'' ⟨a,c,rfl,h3⟩;obtain⟨J,hle,hr',h4⟩:=iK h3 rfl;refine⟨a,_,c,J,rfl,hle,?_,h4⟩;rw[hE];unfold gK;rw[if_pos (by rw[←dQ];exact h0)];exact hr'
 have kY:Hid (rv≠0→E=[]):=ah fun h0=>by rw[hE];unfold gK;rw[if_neg (by rw[←dQ];exact h0)]
 rw[←dQ,←hE];obtain⟨Po,dS⟩:∃P:Ending→World→Prop,P=fun e w'=>∃(a:Option Addr) (n c:Nat) (J:Mem),e=.returned (.tuple #[.slice a n c,.int .i64 rv])∧Mem.le I J∧bZ.rel J [.slice a n c] E∧Sat W w' (sep (kn J) A):=⟨_,rfl⟩
 rw[←dS];have bK:=ah dS;clear hr hsz h64 hlen h h1 hB hw1 dQ hE dS;by_cases hb0:rv=0
 ·subst hb0
  have Dj:=ah (U5.out rfl);clear U5 kY;go_enter Tryz.func83,Tryz.ntmps83;go_upto_region 1 with fail;rw[←HB.out.1,←HB.out.2];go_wp2_with fail;refine (wF.out _ _ H1.out.p1).mono ?_;rintro e w2 ⟨rfl,h2⟩;have H2:=ah h2.p1;clear h2 wF k0 k1 k2 k3;obtain⟨k0,k1,k2,k3⟩:=lH H2.out;go_wp2_with fail;refine (Dj.out _ _ H2.out.p1).mono ?_;rintro e w3 ⟨a,n,c,J,rfl,hle,hr,h3⟩;have HF:=ah (aH hle (aH hr h3.p1.drop));clear h3 hle hr k0 k1 k2 k3 Dj;go_wp2;rw[bK.out];exact⟨a,n,c,J,rfl,HF.out.1,HF.out.2.1,HF.out.2.2⟩
 ·have IW:=ah (kY.out hb0)
  have hb1:(rv !=0)=true:=by simpa using hb0
  have hb2:(rv==0)=false:=by simpa using hb0
  clear U5 kY hb0;go_enter Tryz.func83,Tryz.ntmps83;go_upto_region 1 with fail;rw[←HB.out.1,←HB.out.2];go_wp2_with fail;refine (wF.out _ _ H1.out.p1).mono ?_;rintro e w2 ⟨rfl,h2⟩;have HF:=ah h2.p1.drop;clear h2 wF k0 k1 k2 k3;go_wp2;rw[bK.out];exact⟨none,0,0,I,rfl,bW I,by rw[IW.out];exact jq I,HF.out⟩
end Go.Proofs.YthfmaclnccdcbaaGreatDoor
namespace PA
open Go Go.RowKit
def oL (c:Cl):List UInt8:=gu c.refs++encR (dw c.body)
def oM (l:List Cl):List UInt8:=(l.map oL).flatten
def gJ (l:List Cl):List UInt8:=PA.encI l.length++oM l
def gX (l:List Cl):List UInt8:=if qQ l=0 then gJ l else []
def tJ (l:List Fm):List UInt8:=(l.map fun f=>encR (gK f)).flatten
def nG (td:List Fm) (tc:List Cl):List UInt8:=PA.encI td.length++tJ td++encR (gX tc)
def jV (td:List Fm) (tc:List Cl):List UInt8:=if FT td tc=0 then nG td tc else []
def pY (e:Ea):List UInt8:=PA.encI e.file++PA.encI e.day
def lG (l:List Ea):List UInt8:=(l.map pY).flatten
def gV (x:Pa):List Int:=[x.k,x.d,x.n,x.f,x.o,x.p,x.q,x.u,x.m,x.sn,x.sd]
def iP (x:Pa):List UInt8:=if x.k=0 then encR (jV x.td x.tc)++PA.encI x.ea.length++lG x.ea else if x.k=19 then encR (gK x.fx) else []
def uI (x:Pa):List UInt8:=if x.cl=[] then [] else encR (gX x.cl)
def L6 (x:Pa):List UInt8:=((gV x).map PA.encI).flatten++iP x++uI x
def iI (x:Pa):List UInt8:=if bC x=true then L6 x else []
structure FW (c:Cl):Prop where
 r64:∀r∈c.refs,-9223372036854775808≤r∧r≤9223372036854775807
 rn:c.refs.length≤1048576
 b64:c.body.n64
 bl:(dw c.body).length≤16777216
structure SK (f:Fm):Prop where
 b64:f.n64
 bl:(dw f).length≤16777216
structure uj (x:Pa):Prop where
 n64:∀r∈gV x,-9223372036854775808≤r∧r≤9223372036854775807
 td:∀f∈x.td,SK f
 tc:∀c∈x.tc,FW c
 cl:∀c∈x.cl,FW c
 ea:∀e∈x.ea,(-9223372036854775808≤e.file∧e.file≤9223372036854775807)∧(-9223372036854775808≤e.day∧e.day≤9223372036854775807)
 fx:SK x.fx
 lt:(nG x.td x.tc).length≤268435456
 ltc:(gJ x.tc).length≤134217728
 lcl:(gJ x.cl).length≤134217728
 lw:(L6 x).length≤1073741824
theorem nT {α:Type} (e:α→List UInt8) {l:List α} {j:Nat} {g:α} (h:l[j]?=some g):((l.take (j+1)).map e).flatten=((l.take j).map e).flatten++e g:=by
 rw[List.take_add_one,h];simp
theorem vN {α:Type} (e:α→List UInt8) (l:List α) (j:Nat):((l.take j).map e).flatten.length≤(l.map e).flatten.length:=by
 induction l generalizing j with
 | nil=>simp
 | cons g l ih=>
  cases j with
  | zero=>simp
  | succ j=>
   have:=ih j;rw[List.take_succ_cons,mM,mM,List.flatten_cons,List.flatten_cons,dM,dM];omega
theorem jd {b:List UInt8} {N:Nat} (h:b.length≤N) (hN:N≤1152921504606846976):(encR b).length≤N+10:=by
 unfold encR;rw[dM];have:=Lib.uvarint_length64 (x:=b.length) (by omega);omega
theorem kU {f:Fm} {N:Nat} (h:(dw f).length≤N):(gK f).length≤N:=by
 unfold gK;split
 ·exact h
 ·exact Nat.zero_le _
theorem jr {l:List Cl} {N:Nat} (h:(gJ l).length≤N):(gX l).length≤N:=by
 unfold gX;split
 ·exact h
 ·exact Nat.zero_le _
theorem nS {td:List Fm} {l:List Cl} {N:Nat} (h:(nG td l).length≤N):(jV td l).length≤N:=by
 unfold jV;split
 ·exact h
 ·exact Nat.zero_le _
def yP:List (Int×Int)→Int
 | []=>0
 | p::l=>if p.1<p.2 then -1 else if p.2<p.1 then 1 else yP l
def Aw (X Y:List UInt8):List (Int×Int):=List.zipWith (fun u v=>(((u.toNat:Nat):Int),((v.toNat:Nat):Int))) X Y
def keysB (d1 n1 d2 n2:Int) (X Y:List UInt8):List (Int×Int):=[(d1,d2),(n1,n2)]++Aw X Y++[((X.length:Int),(Y.length:Int))]
def mV (x y:Pa):Int:=yP (keysB x.d x.n y.d y.n (iI x) (iI y))
theorem G7 {I:Mem} {a:Option Addr} {n c:Nat} {l:List UInt8} (h:bZ.rel I [.slice a n c] l):n=l.length∧(n:Int)≤9223372036854775807∧∀i u,l[i]?=some u→∃b o,a=some ⟨b,o,none⟩∧∀w',Ext I w'→w'.cell? ⟨b,o+i,none⟩=some (bv u):=by
 obtain⟨a',c',e,hsw,hc⟩:=vG.1 h;simp only[Value.slice.injEq] at e;obtain⟨rfl,rfl,rfl⟩:=e;refine⟨rfl,by have h1:=hsw.1;have h2:=hsw.2.1;unfold maxLen at h2;omega,fun i u hu=>?_⟩;obtain⟨b,o,e,hx⟩:=lD hc (fun e=>by rw[List.map_eq_nil_iff] at e;rw[e] at hu;simp at hu);exact⟨b,o,e,fun w' he=>hx w' he i _ (by rw[List.getElem?_map,hu];rfl)⟩
def kN:List Int→List Int→Int
 | [],[]=>0
 | [],_::_=>-1
 | _::_,[]=>1
 | a::x,b::y=>if a<b then -1 else if b<a then 1 else kN x y
theorem Af:∀x y:List Int,kN y x=-kN x y
 | [],[]=>rfl
 | [],_::_=>rfl
 | _::_,[]=>rfl
 | a::x,b::y=>by
  simp only[kN];rw[Af x y];by_cases h1:a<b
  ·rw[if_neg (by omega),if_pos h1,if_pos h1];rfl
  ·by_cases h2:b<a
   ·rw[if_pos h2,if_neg h1,if_pos h2]
   ·rw[if_neg h2,if_neg h1,if_neg h1,if_neg h2]
theorem Ep:∀x y z:List Int,kN x y≤0→kN y z≤0→kN x z≤0
 | [],_,[],_,_=>by simp[kN]
 | [],_,_::_,_,_=>by simp[kN]
 | _::_,[],_,h,_=>by simp[kN] at h
 | _::_,_::_,[],_,h=>by simp[kN] at h
 | a::x,b::y,c::z,h,k=>by
  simp only[kN] at h k ⊢;by_cases h1:a<b
  ·by_cases k1:b<c
   ·rw[if_pos (by omega)];omega
   ·rw[if_neg k1] at k
    by_cases k2:c<b
    ·rw[if_pos k2] at k;omega
    ·rw[if_pos (by omega)];omega
  ·rw[if_neg h1] at h
   by_cases h2:b<a
   ·rw[if_pos h2] at h;omega
   ·rw[if_neg h2] at h
    by_cases k1:b<c
    ·rw[if_pos (by omega)];omega
    ·rw[if_neg k1] at k
     by_cases k2:c<b
     ·rw[if_pos k2] at k;omega
     ·rw[if_neg k2] at k
      rw[if_neg (by omega),if_neg (by omega)];exact Ep x y z h k
theorem Jr:∀x y:List Int,kN x y=0→x=y
 | [],[],_=>rfl
 | [],_::_,h=>by simp[kN] at h
 | _::_,[],h=>by simp[kN] at h
 | a::x,b::y,h=>by
  simp only[kN] at h;by_cases h1:a<b
  ·rw[if_pos h1] at h;simp at h
  ·rw[if_neg h1] at h
   by_cases h2:b<a
   ·rw[if_pos h2] at h;simp at h
   ·rw[if_neg h2] at h
    rw[Jr x y h,show a=b by omega]
theorem Hy:∀x:List Int,kN x x=0
 | []=>rfl
 | a::x=>by simp[kN,Hy x]
def Ae (x:Pa):List Int:=x.d::x.n::(iI x).map fun u=>((u.toNat:Nat):Int)
theorem Hz:∀(x y:List UInt8) (k:Int),yP (Aw x y++[((x.length:Int)+k,(y.length:Int)+k)])=kN (x.map fun u=>((u.toNat:Nat):Int)) (y.map fun u=>((u.toNat:Nat):Int))
 | [],[],k=>by simp[Aw,yP,kN]
 | [],b::y,k=>by
  have h:(0:Int)+k<((y.length+1:Nat):Int)+k:=by omega
  simp only[Aw,List.zipWith,tK,yP,kN,List.length_nil,oP,List.map_nil,mM];rw[if_pos (by simpa using h)]
 | a::x,[],k=>by
  have h:(0:Int)+k<((x.length+1:Nat):Int)+k:=by omega
  simp only[Aw,List.zipWith,tK,yP,kN,List.length_nil,oP,List.map_nil,mM];rw[if_neg (by simp only[Int.natCast_zero];omega),if_pos (by simpa using h)]
 | a::x,b::y,k=>by
  have ih:=Hz x y (k+1);have e1:((x.length:Int)+(k+1))=((a::x).length:Int)+k:=by rw[oP];push_cast;omega
  have e2:((y.length:Int)+(k+1))=((b::y).length:Int)+k:=by rw[oP];push_cast;omega
  rw[e1,e2] at ih;have ez:Aw (a::x) (b::y)=(((a.toNat:Nat):Int),((b.toNat:Nat):Int))::Aw x y:=rfl;rw[ez,pV,yP,ih];simp only[mM,kN]
theorem nP (x y:Pa):mV x y=kN (Ae x) (Ae y):=by
 have h:=Hz (iI x) (iI y) 0;simp only[Int.add_zero] at h;unfold mV keysB Ae;rw[kZ];simp only[pV,tK,yP,kN,h]
theorem Pv:Total mV:=⟨fun x y z=>by simp only[nP];exact Ep _ _ _,fun x y=>by simp only[nP];exact Af _ _⟩
theorem TJ {x y:Pa} (h:mV x y=0):x.d=y.d∧x.n=y.n∧iI x=iI y:=by
 rw[nP] at h;have h:=Jr _ _ h;unfold Ae at h;simp only[List.cons.injEq] at h;refine⟨h.1,h.2.1,?_⟩;have hinj:Function.Injective fun u:UInt8=>((u.toNat:Nat):Int):=fun a b hab=>by
  have:a.toNat=b.toNat:=by exact Int.ofNat.inj hab
  exact UInt8.toNat_inj.1 this
 exact (List.map_inj_right (fun a b hab=>hinj hab)).1 h.2.2
theorem Total.comp {α β:Type} {c:β→β→Int} (h:Total c) (g:α→β):Total fun x y=>c (g x) (g y):=⟨fun _ _ _=>h.trans _ _ _,fun _ _=>h.flip _ _⟩
theorem l9 {I:Mem} {a:Option Addr} {n c:Nat} {l:List Int} (h:(sO.slice 1).rel I [.slice a n c] l) {i:Nat} {x:Int} (hx:l[i]?=some x):
 ∃b o,a=some ⟨b,o,none⟩∧∀w',Ext I w'→w'.cell? ⟨b,o+i,none⟩=some (.int .i64 x):=by
 obtain⟨b,o,cs,rfl,hr,-,hc⟩:=mJ h hx (by omega);have e:cs=[.int .i64 x]:=hr;subst e;exact⟨b,o,rfl,fun w' he=>by have:=hc w' he 0 _ rfl;rwa [Nat.mul_one] at this⟩
theorem vH {I:Mem} {a:Option Addr} {n c:Nat} {l:List Cl} (h:(lM.slice 5).rel I [.slice a n c] l) {i:Nat} {x:Cl} (hx:l[i]?=some x):
 ∃b o ra rc p q x1 n1 c1 x2 n2 c2,a=some ⟨b,o,none⟩∧(sO.slice 1).rel I [.slice ra x.refs.length rc] x.refs∧rF.rel I [.int .i64 p,.int .i64 q,.slice x1 n1 c1,.slice x2 n2 c2] x.body ∧
  ∀w',Ext I w'→w'.cell? ⟨b,o+i*5,none⟩=some (.slice ra x.refs.length rc)∧w'.cell? ⟨b,o+i*5+1,none⟩=some (.int .i64 p)∧w'.cell? ⟨b,o+i*5+2,none⟩=some (.int .i64 q)∧w'.cell? ⟨b,o+i*5+3,none⟩=some (.slice x1 n1 c1)∧w'.cell? ⟨b,o+i*5+4,none⟩=some (.slice x2 n2 c2):=by
 obtain⟨b,o,cs,rfl,hr,-,hc⟩:=mJ h hx (by omega);obtain⟨ra,rc,bs,rfl,h1,h2⟩:=hr;obtain⟨refs,⟨p,q,ins,kids⟩⟩:=x;obtain⟨x1,c1,x2,c2,rfl,h3,h4⟩:=dW.1 h2;exact⟨b,o,ra,rc,p,q,x1,_,c1,x2,_,c2,rfl,h1,dW.2 ⟨x1,c1,x2,c2,rfl,h3,h4⟩,fun w' he=>⟨hc w' he 0 _ rfl,hc w' he 1 _ rfl,hc w' he 2 _ rfl,hc w' he 3 _ rfl,hc w' he 4 _ rfl⟩⟩
theorem SA {l:List Int} {i:Nat} {r:Int} (h:l[0]?=some r):qF l i 0=(decide (0≤r)&&decide (r<(i:Int))):=by
 unfold qF;rw[h];simp
theorem JL {l:List Int} {i k:Nat} {r q:Int} (h:l[k+1]?=some r) (h':l[k]?=some q):qF l i (k+1)=(decide (0≤r)&&(decide (r<(i:Int))&&decide (q<r))):=by
 unfold qF;rw[h];simp only;rw[h']
theorem Io {l:List Int} {i k:Nat} {r:Int} (h:l[k]?=some r) (hr:r<0∨(i:Int)≤r):qF l i k=false:=by
 unfold qF;rw[h];simp only;rcases hr with hr|hr
 ·rw[decide_eq_false (show ¬0≤r by omega)];rfl
 ·rw[decide_eq_false (show ¬r<(i:Int) by omega)];simp
theorem G8 {l:List Cl} {j:Nat} {c:Cl} (h:l[j]?=some c):rZ j (l.drop j)=if 8<c.refs.length then 4 else if kK c.refs j=false then 1 else if kQ c.body≠0 then kQ c.body else rZ (j+1) (l.drop (j+1)):=by
 obtain⟨hj,rfl⟩:=qM h;rw[List.drop_eq_getElem_cons hj,rZ]
end PA
namespace Go.Proofs.YthfmaclnccdcbaaGreatDoor
open Go.RowKit PA
set_option maxRecDepth 100000 in
set_option maxHeartbeats 4000000 in
theorem JH {W w:World} {A:aB} {I:Mem} (a:Option Addr) (c:Nat) (l:List Int) (i:Nat) (hv:(sO.slice 1).rel I [.slice a l.length c] l) (h:Sat W w (sep (kn I) A)):
 Calls Tryz.prog 179 #[.slice a l.length c,.int .i64 (i:Nat)] w fun e w'=>e=.returned (.bool (kK l i))∧Sat W w' (sep (kn I) A):=by
 obtain⟨n,hn⟩:=aC (l.length);obtain⟨rv,dQ⟩:=aC (kK l i);have hl63:=(aJ hv).2.2;rw[←hn] at hv hl63 ⊢;rw[←dQ];have bU:Hid (rv=tV l i n∧n=l.length):=ah ⟨by rw[dQ,hn];rfl,hn⟩;have HV:=ah hv;have H:=ah h;clear hv h dQ hn;go_enter Tryz.func179,Tryz.ntmps179;go_wp2;go_loopw [5] (fun iv wr=>∃k:Nat,iv=.int .i64 k∧k≤n∧Hid (tV l i k=true)∧Sat W wr (sep (kn I) A)) (fun iv _=>n-(intOf iv).toNat)
 case atStart=>exact⟨0,rfl,by omega,ah (yg l i),H.out⟩
 case round=>
  obtain⟨k,rfl,hk,HT,hS⟩:=hrel;by_cases hlt:k<n
  ·have hltz:(k:Int)<(n:Int):=by omega
   have hkl:k<l.length:=by have:=bU.out.2;omega
   obtain⟨r,hr⟩:∃r,l[k]?=some r:=⟨_,iM hkl⟩
   obtain⟨b,o,rfl,hcell⟩:=l9 HV.out hr;have hd:=hS.drew;have c0:=hcell _ hd.ext;have HD:=ah hd;have HR:=ah (aH hr (aH hlt hkl));have HBAD:Hid (qF l i k=false→rv=false):=ah fun e=>by rw[bU.out.1];exact Aj hlt e
   clear hr hcell hS hd hlt hkl hk H;by_cases n0:r<0
   ·have n0':decide (r<0)=true:=decide_eq_true n0
    have HF:Hid (rv=false):=ah (HBAD.out (Io HR.out.1 (.inl n0)));clear n0 HBAD;go_upto_region 4 with fail;refine aG rfl (fun _=>True) [(0,.p),(1,.p),(2,.p),(3,.t),(4,.p),(5,.p),(6,.p),(7,.p),(8,.p),(9,.t),(10,.p),(11,.p),(12,.p),(13,.p),(14,.p),(15,.p),(16,.p),(17,.p),(18,.p),(19,.p),(20,.t),(21,.p),(22,.p),(23,.p),(24,.p),(25,.t),(26,.p),(27,.p),(28,.p)] (by kernel_rfl) ?_;have hS0:True:=trivial;refine bG ?_;refine dJ ?_;clear c0;go_wp2;go_ret;exact⟨by rw[HF.out];rfl,HD.out⟩
   ·have n0':decide (r<0)=false:=decide_eq_false n0
    by_cases n1:(i:Int)≤r
    ·have n1':decide ((i:Int)≤r)=true:=decide_eq_true n1
     have HF:Hid (rv=false):=ah (HBAD.out (Io HR.out.1 (.inr n1)));clear n0 n1 HBAD;go_upto_region 4 with fail;refine aG rfl (fun _=>True) [(0,.p),(1,.p),(2,.p),(3,.t),(4,.p),(5,.p),(6,.p),(7,.p),(8,.p),(9,.t),(10,.p),(11,.p),(12,.p),(13,.p),(14,.p),(15,.p),(16,.p),(17,.p),(18,.p),(19,.p),(20,.t),(21,.p),(22,.p),(23,.p),(24,.p),(25,.t),(26,.p),(27,.p),(28,.p)] (by kernel_rfl) ?_;have hS0:True:=trivial;refine bG ?_;refine dJ ?_;clear c0;go_wp2;go_ret;exact⟨by rw[HF.out];rfl,HD.out⟩
    ·have n1':decide ((i:Int)≤r)=false:=decide_eq_false n1
     have HRR:Hid (0≤r∧r<(i:Int)):=ah ⟨by omega,by omega⟩;clear n0 n1;cases k with
     | zero=>
      rw[Nat.add_zero] at c0;go_upto_region 4 with fail;refine aG rfl (fun _=>True) [(0,.p),(1,.p),(2,.p),(3,.t),(4,.p),(5,.p),(6,.p),(7,.p),(8,.p),(9,.t),(10,.p),(11,.p),(12,.p),(13,.p),(14,.p),(15,.p),(16,.p),(17,.p),(18,.p),(19,.p),(20,.t),(21,.p),(22,.p),(23,.p),(24,.p),(25,.t),(26,.p),(27,.p),(28,.p)] (by kernel_rfl) ?_;have hS0:True:=trivial;refine bG ?_;refine dJ ?_;clear c0;go_wp2;go_roundw;case rel=>exact⟨1,by go_num,by have:=HR.out;omega,ah (by rw[o8,HT.out,SA HR.out.1,decide_eq_true HRR.out.1,decide_eq_true HRR.out.2];rfl),HD.out⟩
      case measure=>simp[intOf];have:=HR.out;omega
     | succ k=>
      obtain⟨q,hq⟩:∃q,l[k]?=some q:=⟨_,iM (by have:=HR.out.2.2;omega)⟩
      obtain⟨b',o',e',hcj⟩:=l9 HV.out hq;cases e';have c1:=hcj _ HD.out.ext;have hjw:IntKind.i64.wrap (k:Int)=(k:Int):=IntWalk.i64_in _ (by omega);have hjn:(k:Int)<(n:Int):=by omega
      have hj0:(0:Int)<(k:Int)+1:=by omega
      have hj1:(k:Int)+1<(n:Int):=by omega
      have hjz:(0:Int)≤(k:Int)+1:=by omega
      have hjt:((k:Int)+1).toNat=k+1:=by omega
      have HQ:=ah hq;clear hq hcj hltz;by_cases n2:r≤q
      ·have n2':decide (r≤q)=true:=decide_eq_true n2
       have HF:Hid (rv=false):=ah (HBAD.out (by rw[JL HR.out.1 HQ.out,decide_eq_false (show ¬q<r by omega)];simp));clear n2;go_upto_region 4 with fail;refine aG rfl (fun _=>True) [(0,.p),(1,.p),(2,.p),(3,.t),(4,.p),(5,.p),(6,.p),(7,.p),(8,.p),(9,.t),(10,.p),(11,.p),(12,.p),(13,.p),(14,.p),(15,.p),(16,.p),(17,.p),(18,.p),(19,.p),(20,.t),(21,.p),(22,.p),(23,.p),(24,.p),(25,.t),(26,.p),(27,.p),(28,.p)] (by kernel_rfl) ?_;have hS0:True:=trivial;refine bG ?_;refine dJ ?_;clear c0 c1;go_wp2;go_ret;exact⟨by rw[HF.out];rfl,HD.out⟩
      ·have n2':decide (r≤q)=false:=decide_eq_false n2
       have HQR:Hid (q<r):=ah (by omega);clear n2;go_upto_region 4 with fail;refine aG rfl (fun _=>True) [(0,.p),(1,.p),(2,.p),(3,.t),(4,.p),(5,.p),(6,.p),(7,.p),(8,.p),(9,.t),(10,.p),(11,.p),(12,.p),(13,.p),(14,.p),(15,.p),(16,.p),(17,.p),(18,.p),(19,.p),(20,.t),(21,.p),(22,.p),(23,.p),(24,.p),(25,.t),(26,.p),(27,.p),(28,.p)] (by kernel_rfl) ?_;have hS0:True:=trivial;refine bG ?_;refine dJ ?_;clear c0 c1;go_wp2;go_roundw;case rel=>exact⟨k+2,by go_num,by have:=HR.out;omega,ah (by rw[o8,HT.out,JL HR.out.1 HQ.out,decide_eq_true HRR.out.1,decide_eq_true HRR.out.2,decide_eq_true HQR.out];rfl),HD.out⟩
       case measure=>simp[intOf];have:=HR.out;omega
  ·obtain rfl:k=n:=by omega
   have HS:=ah hS;have HTT:Hid (rv=true):=ah (by rw[bU.out.1];exact HT.out);clear hS H;go_wp2;go_ret;exact⟨by rw[HTT.out];rfl,HS.out⟩
set_option maxRecDepth 100000 in
set_option maxHeartbeats 4000000 in
theorem lV {W w:World} {A:aB} {I:Mem} (a:Option Addr) (n c:Nat) (l:List Cl) (hv:(lM.slice 5).rel I [.slice a n c] l) (hB:∀x∈l,x.body.size≤nN) (h:Sat W w (sep (kn I) A)):
 Calls Tryz.prog 140 #[.slice a n c] w fun e w'=>e=.returned (.int .i64 (qQ l))∧Sat W w' (sep (kn I) A):=by
 have hn:=(aJ hv).1;have hl63:=(aJ hv).2.2;obtain⟨rv,dQ⟩:=aC (qQ l);rw[←dQ];have bU:Hid (rv=(if 32<n then 4 else rZ 0 l)∧n=l.length):=ah ⟨by rw[dQ,hn];rfl,hn⟩;have HV:=ah hv;have vk:=ah hB;have H:=ah h;clear hv h dQ hn hB;by_cases h32:32<n
 ·have PU:(32:Int)<(n:Int):=by omega
  have HF:Hid (rv=4):=ah (by rw[bU.out.1,if_pos h32]);clear h32;go_enter Tryz.func140,Tryz.ntmps140;go_wp2;go_ret;exact⟨by rw[HF.out];rfl,H.out⟩
 ·have PU:¬(32:Int)<(n:Int):=by omega
  have HG:Hid (rv=rZ 0 l):=ah (by rw[bU.out.1,if_neg h32]);have afk:(n:Int)≤32:=by omega
  clear h32;go_enter Tryz.func140,Tryz.ntmps140;go_upto_region 3 with fail;clear PU;go_wp2;go_loopw [3] (fun iv wr=>∃k:Nat,iv=.int .i64 k∧k≤n∧Hid (rv=rZ k (l.drop k))∧Sat W wr (sep (kn I) A)) (fun iv _=>n-(intOf iv).toNat)
  case atStart=>exact⟨0,rfl,by omega,HG,H.out⟩
  case round=>
   obtain⟨k,rfl,hk,HT,hS⟩:=hrel;by_cases hlt:k<n
   ·have hltz:(k:Int)<(n:Int):=by omega
    have hkl:k<l.length:=by have:=bU.out.2;omega
    obtain⟨x,hx⟩:∃x,l[k]?=some x:=⟨_,iM hkl⟩
    obtain⟨b,o,ra,rc,p,q,x1,n1,c1,x2,n2,c2,rfl,hrr,hrb,hcell⟩:=vH HV.out hx;obtain⟨k0,k1,k2,k3,k4⟩:=hcell wr hS.ext;have hT:=HT.out;rw[G8 hx] at hT;obtain⟨nr,hnr⟩:=aC (x.refs.length);obtain⟨rf,hrf⟩:=aC (kK x.refs k);obtain⟨be,hbe⟩:=aC (kQ x.body);have hrs:=JH ra rc x.refs k hrr hS;rw[←hrf,←hnr] at hrs;have U8:=ah hrs;have hvs:∀w' A',Sat W w' (sep (kn I) A')→Calls Tryz.prog 123 #[.agg #[.int .i64 p,.int .i64 q,.slice x1 n1 c1,.slice x2 n2 c2]] w' fun e w''=>e=.returned (.int .i64 be)∧Sat W w'' (sep (kn I) A'):=fun w' A' h'=>by
     rw[hbe];exact jR x.body p q x1 n1 c1 x2 n2 c2 hrb (vk.out x (mZ hx)) h'
    have wF:=ah hvs;have HC:=ah hcell;have abE:=(aJ hrr).2.2;rw[←hnr] at hT k0 abE;rw[←hrf,←hbe] at hT;have HT2:=ah hT;have HK:=ah hlt;have HS0:=ah hS;clear hx hrr hrb hcell hT hnr hrf hbe hrs hvs hS hlt hkl hk H HT HG;by_cases h8:8<nr
    ·have h8z:(8:Int)<(nr:Int):=by omega
     have HF:Hid (rv=4):=ah (by rw[HT2.out,if_pos h8]);clear h8;go_wp2;go_ret;exact⟨by rw[HF.out];rfl,HS0.out⟩
    ·have h8z:¬(8:Int)<(nr:Int):=by omega
     have HT3:Hid (rv=if rf=false then 1 else if be≠0 then be else rZ (k+1) (l.drop (k+1))):=ah (by rw[HT2.out,if_neg h8]);clear h8 HT2;go_wp2_with fail;refine U8.out.mono ?_;rintro e w2 ⟨rfl,h2⟩;have H2:=ah h2;clear h2 U8 k0 k1 k2 k3 k4 h8z;obtain⟨k0,k1,k2,k3,k4⟩:=HC.out w2 H2.out.ext;cases rf with
     | false=>
      have HF:Hid (rv=1):=ah (by rw[HT3.out];rfl);go_wp2;go_ret;exact⟨by rw[HF.out];rfl,H2.out⟩
     | true=>
      go_wp2_with fail;refine (wF.out _ _ H2.out).mono ?_;rintro e w3 ⟨rfl,h3⟩;have H3:=ah h3;clear h3 H2 wF k0 k1 k2 k3 k4;by_cases hb0:be=0
      ·have HF:Hid (rv=rZ (k+1) (l.drop (k+1))):=ah (by rw[HT3.out];simp[hb0])
       subst hb0;go_wp2;go_roundw;case rel=>exact⟨k+1,by go_num,by have:=HK.out;omega,HF,H3.out⟩
       case measure=>simp[intOf];have:=HK.out;omega
      ·have HF:Hid (rv=be):=ah (by rw[HT3.out];simp[hb0])
       have hb1:(be !=0)=true:=by simpa using hb0
       have hb2:(be==0)=false:=by simpa using hb0
       clear hb0;go_wp2;go_ret;exact⟨by rw[HF.out];rfl,H3.out⟩
   ·obtain rfl:k=n:=by omega
    have HF:Hid (rv=0):=ah (by
     have:=HT.out;rw[List.drop_of_length_le (by have:=bU.out.2;omega)] at this;exact this)
    have HS:=ah hS;clear hS H;go_wp2;go_ret;exact⟨by rw[HF.out];rfl,HS.out⟩
set_option maxRecDepth 100000 in
set_option maxHeartbeats 4000000 in
theorem Ql {W w:World} {A:aB} {I:Mem} (a:Option Addr) (c:Nat) (l:List Int) (i:Nat) (hv:(sO.slice 1).rel I [.slice a l.length c] l) (h:Sat W w (sep (kn I) A)):
 Calls Tryz.prog 156 #[.slice a l.length c,.int .i64 (i:Nat)] w fun e w'=>e=.returned (.bool (kK l i))∧Sat W w' (sep (kn I) A):=by
 obtain⟨n,hn⟩:=aC (l.length);obtain⟨rv,dQ⟩:=aC (kK l i);have hl63:=(aJ hv).2.2;rw[←hn] at hv hl63 ⊢;rw[←dQ];have bU:=ah (aH dQ hn);have HV:=ah hv;have H:=ah h;clear hv h dQ hn;go_enter Tryz.func156,Tryz.ntmps156;go_wp2_with fail;go_loopw [5,10] (fun lv kv wr=>∃(k:Nat) (z:Int),lv=.int .i64 z∧kv=.int .i64 k∧k≤n∧Hid (tV l i k=true∧(k=0→z=-1)∧(∀j,k=j+1→l[j]?=some z))∧Sat W wr (sep (kn I) A)) (fun _ kv _=>n-(intOf kv).toNat)
 case atStart=>exact⟨0,-1,rfl,rfl,by omega,ah ⟨yg l i,fun _=>rfl,fun j hj=>by omega⟩,H.out⟩
 case round=>
  obtain⟨k,z,rfl,rfl,hk,HT,hS⟩:=hrel;clear H;by_cases hlt:k<n
  ·have hltz:(k:Int)<(n:Int):=by omega
   obtain⟨r,hr⟩:∃r,l[k]?=some r:=⟨_,iM (by have:=bU.out.2;omega)⟩
   obtain⟨b,o,rfl,hcell⟩:=l9 HV.out hr;have j0:=hcell wr hS.ext;have hat:qF l i k=(!(decide (r≤z)||decide ((i:Int)≤r))):=by
    cases k with
    | zero=>
     have hz:z=-1:=HT.out.2.1 rfl;rw[SA hr,hz];rw[Bool.eq_iff_iff];simp;omega
    | succ k=>
     have hz:=HT.out.2.2 k rfl;rw[JL hr hz];have hb:0≤z:=by
      have h1:=HT.out.1;rw[o8] at h1;simp only[Bool.and_eq_true] at h1;have h2:=h1.2;unfold qF at h2;rw[hz] at h2;simp only[Bool.and_eq_true,decide_eq_true_eq] at h2;exact h2.1
     rw[Bool.eq_iff_iff];simp;omega
   have HAT:=ah (aH hat (aH hr hlt));have HS:=ah hS;clear hat hr hcell hlt hk hS;by_cases h1:r≤z
   ·have hF:rv=false:=by
     rw[bU.out.1];unfold kK;rw[←bU.out.2];exact Aj HAT.out.2.2 (by rw[HAT.out.1,decide_eq_true h1];rfl)
    have HF:=ah hF;clear hF;go_wp2;go_ret;exact⟨by rw[HF.out];try rfl,HS.out⟩
   ·by_cases h2:(i:Int)≤r
    ·have hF:rv=false:=by
      rw[bU.out.1];unfold kK;rw[←bU.out.2];exact Aj HAT.out.2.2 (by rw[HAT.out.1,decide_eq_true h2];simp)
     have HF:=ah hF;clear hF;go_wp2;go_ret;exact⟨by rw[HF.out];try rfl,HS.out⟩
    ·have HN:Hid (tV l i (k+1)=true):=ah (by rw[o8,HT.out.1,HAT.out.1,decide_eq_false h1,decide_eq_false h2];rfl)
     go_wp2;go_roundw;case rel=>exact⟨k+1,r,rfl,by go_num,by have:=HAT.out.2.2;omega,ah ⟨HN.out,fun e=>by omega,fun j hj=>(by have e:j=k:=(by omega);rw[e];exact HAT.out.2.1)⟩,HS.out⟩
     case measure=>simp[intOf];have:=HAT.out.2.2;omega
  ·obtain rfl:k=n:=by omega
   have HF:Hid (rv=true):=ah (by rw[bU.out.1];unfold kK;rw[←bU.out.2];exact HT.out.1);have HS:=ah hS;clear hS hlt hk HT;go_wp2;go_ret;exact⟨by rw[HF.out];try rfl,HS.out⟩
set_option maxRecDepth 100000 in
set_option maxHeartbeats 4000000 in
theorem Qj {W:World} {I:Mem} (f:Fm):∀(w:World) (A:aB) (p q:Int) (x1:Option Addr) (n1 c1:Nat) (x2:Option Addr) (n2 c2:Nat),rF.rel I [.int .i64 p,.int .i64 q,.slice x1 n1 c1,.slice x2 n2 c2] f→f.size≤nN→Sat W w (sep (kn I) A) →
 Calls Tryz.prog 162 #[.agg #[.int .i64 p,.int .i64 q,.slice x1 n1 c1,.slice x2 n2 c2]] w fun e w'=>e=.returned (.int .i64 (f.deep:Nat))∧Sat W w' (sep (kn I) A):=by
 refine Fm.ind (P:=fun f=>∀(w:World) (A:aB) (p q:Int) (x1:Option Addr) (n1 c1:Nat) (x2:Option Addr) (n2 c2:Nat),rF.rel I [.int .i64 p,.int .i64 q,.slice x1 n1 c1,.slice x2 n2 c2] f→f.size≤nN→Sat W w (sep (kn I) A) →
  Calls Tryz.prog 162 #[.agg #[.int .i64 p,.int .i64 q,.slice x1 n1 c1,.slice x2 n2 c2]] w fun e w'=>e=.returned (.int .i64 (f.deep:Nat))∧Sat W w' (sep (kn I) A)) (fun o n i k ih=>?_) f
 intro w A p q x1 n1 c1 x2 n2 c2 hr hsz h;obtain⟨x1',c1',x2',c2',e,hi,hk⟩:=dW.1 hr;simp only[List.cons.injEq,Value.int.injEq,Value.slice.injEq,true_and,and_true] at e;obtain⟨rfl,rfl,⟨rfl,rfl,rfl⟩,⟨rfl,rfl,rfl⟩⟩:=e;have h1:=h.alloc (.cells #[.int .i64 p,.int .i64 q,.slice x1 i.length c1,.slice x2 k.length c2] 34);obtain⟨B,hB⟩:=aC (w.heap.size);obtain⟨w1,hw1⟩:=aC (w.alloc (.cells #[.int .i64 p,.int .i64 q,.slice x1 i.length c1,.slice x2 k.length c2] 34));rw[←hB,←hw1] at h1;have HB:=ah (aH hB hw1);have H1:=ah h1.drop;obtain⟨-,-,-,k3⟩:=lH h1;obtain⟨nk,hnk⟩:=aC (k.length);obtain⟨ni,hni⟩:=aC (i.length);obtain⟨sz,hs⟩:=aC (Fm.sizes k);have hszz:(Fm.mk p q i k).size=sz+1:=by rw[hs,Fm.size]
 obtain⟨dk,hdk⟩:=aC (Fm.dK k);have hdd:(Fm.mk p q i k).deep=dk+1:=by rw[hdk,Fm.deep]
 have hdl:=Fm.LP k;have uP:=(aJ hk).2.2;rw[hszz] at hsz;rw[hdd];have HIH:=ah ih;rw[←hnk] at hk uP k3 ⊢;rw[←hni] at ⊢;simp only[←hni,←hnk] at HB;have HK:=ah hk;have HN:=ah (aH hnk (aH hs hdk));have hdz:(dk:Int)≤1000000:=by unfold nN at hsz;omega
 have ML:sz≤1000000:=by unfold nN at hsz;omega
 have KI:=ah ML;clear hr hsz h hi hk h1 hB hw1 hnk hni hs hszz ih ML hdk hdd hdl;go_enter Tryz.func162,Tryz.ntmps162;go_upto_region 1 with fail;rw[←HB.out.1,←HB.out.2];go_wp2_with fail;go_loopw [3,9] (fun sv iv wr=>∃(j s:Nat),sv=.int .i64 s∧iv=.int .i64 j∧j≤nk∧s≤dk∧Hid (s=Fm.dK (k.take j))∧Sat W wr (sep (kn I) A)) (fun _ iv _=>nk-(intOf iv).toNat)
 case atStart=>exact⟨0,0,rfl,rfl,by omega,by omega,ah (by simp[Fm.dK]),H1.out⟩
 case round=>
  obtain⟨j,s,rfl,rfl,hj,hsl,HS,hS⟩:=hrel;clear k3;by_cases hlt:j<nk
  ·have hltz:(j:Int)<(nk:Int):=by omega
   obtain⟨g,hg⟩:∃g,k[j]?=some g:=⟨_,iM (by have:=HN.out.1;omega)⟩
   obtain⟨b,o,p',q',y1,m1,d1,y2,m2,d2,rfl,hgr,hcell⟩:=gY HK.out hg;have hmem:g∈k:=mZ hg;obtain⟨j0,j1,j2,j3⟩:=hcell wr hS.ext;obtain⟨sg,hsg⟩:=aC (g.deep);have hgs:=Fm.lQ hmem;have htk:=Fm.DX k j hg;have htl:Fm.dK (k.take (j+1))≤dk:=by
    rw[HN.out.2.2];have key:∀(l:List Fm) (i:Nat),Fm.dK (l.take i)≤Fm.dK l:=by
     intro l
     induction l with
     | nil=>intro i;simp
     | cons g l ih=>
      intro i;cases i with
      | zero=>simp[Fm.dK]
      | succ i=>rw[List.take_succ_cons,Fm.dK,Fm.dK];have:=ih i;omega
    exact key _ _
   obtain⟨mx,hmx⟩:=aC (max s sg);have hb:mx≤dk:=by rw[hmx,HS.out,hsg,←htk];exact htl
   have emx:(if s<sg then (sg:Int) else (s:Int))=(mx:Int):=by split<;>omega
   have HMX:=ah emx;have hAl:=hS.alloc (.cells #[.int .i64 p',.int .i64 q',.slice y1 m1 d1,.slice y2 m2 d2] 34);obtain⟨M,hM⟩:=aC (wr.heap.size);obtain⟨w2,hw2⟩:=aC (wr.alloc (.cells #[.int .i64 p',.int .i64 q',.slice y1 m1 d1,.slice y2 m2 d2] 34));rw[←hM,←hw2] at hAl;obtain⟨t0,t1,t2,t3⟩:=lH hAl;have IX:=ah (aH hM hw2);have hrec:=HIH.out g hmem w2 A p' q' y1 m1 d1 y2 m2 d2 hgr (by have:=KI.out;have:=HN.out.2.1;unfold nN;omega) hAl.drop;rw[←hsg] at hrec;have HR:=ah hrec;have HT:Hid (mx=Fm.dK (k.take (j+1))):=ah (by rw[htk,hmx,HS.out,hsg]);have vw:=ah (aH hb hlt);clear hgr hcell hmem hsg hgs htk htl hrec hg hS hb hlt hj hsl H1 hmx emx hAl hM hw2;go_upto_region 5 with fail;rw[←IX.out.1,←IX.out.2];go_wp2_with fail;refine HR.out.mono ?_;rintro e w3 ⟨rfl,h2⟩;have H2:=ah h2;clear h2 HR j0 j1 j2 j3 t0 t1 t2 t3;go_wp2;go_roundw;case rel=>exact⟨j+1,mx,congrArg (Value.int .i64) HMX.out,by go_num,by have:=vw.out;omega,vw.out.1,HT,H2.out⟩
   case measure=>simp[intOf];have:=vw.out;omega
  ·obtain rfl:j=nk:=by omega
   have hss:s=dk:=by rw[HS.out,HN.out.2.2,List.take_of_length_le (by have:=HN.out.1;omega)]
   have HSS:=ah hss;have HF:=ah hS;clear hS hss H1;go_wp2;go_ret;exact⟨by rw[HSS.out];simp,HF.out⟩
end Go.Proofs.YthfmaclnccdcbaaGreatDoor

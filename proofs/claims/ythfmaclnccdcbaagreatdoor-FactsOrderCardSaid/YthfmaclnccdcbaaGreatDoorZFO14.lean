/- Part of a proof. -/
import Derived.Test.YthfmaclnccdcbaaGreatDoorZFO12
import Derived.Test.YthfmaclnccdcbaaGreatDoorZFO13
namespace PA
open Go Go.RowKit
structure En where
 far:Int
 n:Int
 d:Int
 af:Bool
def En.cs (e:En):List Value:=[.int .i64 e.far,.int .i64 e.n,.int .i64 e.d,.bool e.af]
def Et (x:Iv):En:=if x.li=true then ⟨-1,0,0,false⟩ else ⟨0,x.ln,x.ld,x.lo⟩
def Ef (x:Iv):En:=if x.hi=true then ⟨1,0,0,false⟩ else ⟨0,x.hn,x.hd,!x.ho⟩
def Qe (a b:En):Bool:=if a.far=b.far then (if a.far=0 then (if a.n*b.d=b.n*a.d then (!a.af&&b.af) else decide (a.n*b.d<b.n*a.d)) else false) else decide (a.far<b.far)
def wI (r:Rt) (o i:Bool):Bool:=if i=true then zR r&&!o else fD r
theorem LM {a b:Rt} (ha:okR a=true) (hb:okR b=true):(a.n*b.d=b.n*a.d)↔eqR a b=true:=by
 obtain⟨an,ad⟩:=a;obtain⟨bn,bd⟩:=b;obtain⟨a1,-,-,-,ag⟩:=(JA an ad).1 ha;obtain⟨b1,-,-,-,bg⟩:=(JA bn bd).1 hb;unfold eqR;simp only[Bool.and_eq_true,beq_iff_eq];constructor
 ·intro h
  have hn:=congrArg Int.natAbs h;rw[Int.natAbs_mul,Int.natAbs_mul] at hn;have h1:ad.natAbs ∣ bd.natAbs:=by
   refine Nat.Coprime.dvd_of_dvd_mul_left (k:=ad.natAbs) (n:=bd.natAbs) (m:=an.natAbs) (by rw[Nat.Coprime,Nat.gcd_comm];exact ag) ?_;rw[hn];exact Nat.dvd_mul_left _ _
  have h2:bd.natAbs ∣ ad.natAbs:=by
   refine Nat.Coprime.dvd_of_dvd_mul_left (k:=bd.natAbs) (n:=ad.natAbs) (m:=bn.natAbs) (by rw[Nat.Coprime,Nat.gcd_comm];exact bg) ?_;rw[←hn];exact Nat.dvd_mul_left _ _
  have h3:ad.natAbs=bd.natAbs:=Nat.dvd_antisymm h1 h2;have h4:ad=bd:=by omega
  subst h4;exact⟨Int.eq_of_mul_eq_mul_right (by omega) h,rfl⟩
 ·rintro⟨rfl,rfl⟩;rfl
theorem sW {r:Rt} (h:fD r=true):okR r=true:=by
 unfold fD at h;simp only[Bool.and_eq_true] at h;exact h.1
theorem Eb (x:Iv):ig x=(wI x.lw x.lo x.li&&(wI x.up x.ho x.hi&&Qe (Et x) (Ef x))):=by
 obtain⟨ln,ld,hn,hd,lo,ho,li,hi⟩:=x;unfold ig wI Et Ef Iv.lw Iv.up;simp only;cases li with
 | true=>
  cases hi with
  | true=>cases zR ⟨ln,ld⟩<;>cases zR ⟨hn,hd⟩<;>cases lo<;>cases ho<;>simp[Qe]
  | false=>cases zR ⟨ln,ld⟩<;>cases fD ⟨hn,hd⟩<;>cases lo<;>cases ho<;>simp[Qe]
 | false=>
  cases hi with
  | true=>cases fD ⟨ln,ld⟩<;>cases zR ⟨hn,hd⟩<;>cases lo<;>cases ho<;>simp[Qe]
  | false=>
   cases h1:fD ⟨ln,ld⟩ with
   | false=>simp
   | true=>
    cases h2:fD ⟨hn,hd⟩ with
    | false=>simp
    | true=>
     have hc:=LM (sW h1) (sW h2);simp only at hc;unfold Qe Qg;simp only[Bool.false_and,Bool.or_false,Bool.not_false,Bool.not_true,Bool.and_false,Bool.false_eq_true,if_false,Bool.true_and,if_true];by_cases e:ln*hd=hn*ld
     ·rw[if_pos e,if_pos (hc.1 e)]
     ·rw[if_neg e,if_neg (fun h=>e (hc.2 h))]
theorem vO {x:Iv} (h:ig x=true):wI x.lw x.lo x.li=true∧wI x.up x.ho x.hi=true:=by
 rw[Eb] at h;simp only[Bool.and_eq_true] at h;exact⟨h.1,h.2.1⟩
theorem O5 {x y:Iv} (hx:ig x=true) (hy:ig y=true):rX x y=Qe (Ef x) (Et y):=by
 have h1:=(vO hx).2;have h2:=(vO hy).1;clear hx hy;obtain⟨ln,ld,hn,hd,lo,ho,li,hi⟩:=x;obtain⟨WW,ld',hn',hd',lo',ho',X9,hi'⟩:=y;unfold wI Iv.lw Iv.up at *;simp only at h1 h2;unfold rX Et Ef Iv.lw Iv.up;simp only;cases hi with
 | true=>cases X9<;>simp[Qe]
 | false=>
  cases X9 with
  | true=>simp[Qe]
  | false=>
   simp only[Bool.false_eq_true,if_false] at h1 h2;have hc:=LM (sW h1) (sW h2);simp only at hc;unfold Qe Qg;simp only[Bool.or_self,Bool.false_eq_true,if_false,if_true,Bool.not_not];by_cases e:hn*ld'=WW*hd
   ·rw[if_pos e,if_pos (hc.1 e)]
   ·rw[if_neg e,if_neg (fun h=>e (hc.2 h))]
def QT (a b:En):Prop:=a.far=b.far→a.far=0→(-9223372036854775808≤a.n*b.d∧a.n*b.d≤9223372036854775807)∧-9223372036854775808≤b.n*a.d∧b.n*a.d≤9223372036854775807
theorem rQ {W w:World} {A:aB} {g:Nat} {a b c d:Value} {t:TypeId} (h:Sat W w (sep (blk g (.cells #[a,b,c,d] t (0,0))) A)):
 w.cell? ⟨g,0,none⟩=some a∧w.cell? ⟨g,1,none⟩=some b∧w.cell? ⟨g,2,none⟩=some c∧w.cell? ⟨g,3,none⟩=some d:=⟨h.cell 0,h.cell 1,h.cell 2,h.cell 3⟩
theorem kT {W w:World} {A:aB} {g:Nat} {a b c d:Value} {t:TypeId} (h:Sat W w (sep (blk g (.cells #[a,b,c,d] t (0,0))) A)):
 w.frozen? ⟨g,0,none⟩=false∧w.frozen? ⟨g,1,none⟩=false∧w.frozen? ⟨g,2,none⟩=false∧w.frozen? ⟨g,3,none⟩=false:=⟨h.aI 0,h.aI 1,h.aI 2,h.aI 3⟩
theorem jl {W w:World} {A:aB} {g:Nat} {a b c d:Value} {t:TypeId} (h:Sat W w (sep (blk g (.cells #[a,b,c,d] t (0,0))) A)) (p q r s:Value):
 Sat W ((((w.setCell ⟨g,0,none⟩ p).setCell ⟨g,1,none⟩ q).setCell ⟨g,2,none⟩ r).setCell ⟨g,3,none⟩ s) (sep (blk g (.cells #[p,q,r,s] t (0,0))) A):=
 (((h.setCell 0 p).setCell 1 q).setCell 2 r).setCell 3 s
end PA
namespace Go.Proofs.YthfmaclnccdcbaaGreatDoor
open Go.RowKit PA
set_option maxHeartbeats 4000000
theorem CQ {a b:Rt} (ha:fD a=true) (hb:fD b=true):-9223372036854775808≤a.n*b.d∧a.n*b.d≤9223372036854775807:=by
 have h1:=oq ha;have h2:=oq hb;have:=Jy h1.n1 h1.n2 (by have:=h2.d1;omega) h2.d2;omega
theorem V7 {x y:Iv} (hx:ig x=true) (hy:ig y=true):QT (Ef x) (Et y):=by
 have h1:=(vO hx).2;have h2:=(vO hy).1;unfold wI at h1 h2;intro e1 e2;unfold Ef Et at *;cases hh:x.hi with
 | true=>rw[hh] at e2;simp at e2
 | false=>
  cases hl:y.li with
  | true=>rw[hh,hl] at e1;simp at e1
  | false=>
   rw[hh] at h1;rw[hl] at h2;simp only[Bool.false_eq_true,if_false] at h1 h2 ⊢;exact⟨CQ h1 h2,CQ h2 h1⟩
theorem V8 {x:Iv} (h1:wI x.lw x.lo x.li=true) (h2:wI x.up x.ho x.hi=true):QT (Et x) (Ef x):=by
 unfold wI at h1 h2;intro e1 e2;unfold Ef Et at *;cases hh:x.li with
 | true=>rw[hh] at e2;simp at e2
 | false=>
  cases hl:x.hi with
  | true=>rw[hh,hl] at e1;simp at e1
  | false=>
   rw[hh] at h1;rw[hl] at h2;simp only[Bool.false_eq_true,if_false] at h1 h2 ⊢;exact⟨CQ h1 h2,CQ h2 h1⟩
set_option maxRecDepth 100000 in
theorem Ez {W w:World} {A:aB} (a b:En) (hf:QT a b) (h:Sat W w A):
 Calls Tryz.prog 215 #[.agg a.cs.toArray,.agg b.cs.toArray] w fun e w'=>e=.returned (.bool (Qe a b))∧Sat W w' A:=by
 obtain⟨af,an,ad,aa⟩:=a;obtain⟨bf,bn,bd,ba⟩:=b;unfold QT at hf;simp only at hf;obtain⟨p,hp⟩:=aC (an*bd);obtain⟨q,hq⟩:=aC (bn*ad);have hr:Qe ⟨af,an,ad,aa⟩ ⟨bf,bn,bd,ba⟩=if af=bf then (if af=0 then (if p=q then (!aa&&ba) else decide (p<q)) else false) else decide (af<bf):=by rw[hp,hq];rfl
 rw[←hp,←hq] at hf;have e1:an*bd=p:=hp.symm;have e2:bn*ad=q:=hq.symm;rw[hr];have h1:=(h.alloc (.cells #[.int .i64 af,.int .i64 an,.int .i64 ad,.bool aa] 223)).alloc (.cells #[.int .i64 bf,.int .i64 bn,.int .i64 bd,.bool ba] 223);rw[World.size_alloc] at h1;obtain⟨B,hB⟩:=aC (w.heap.size);obtain⟨w1,hw1⟩:=aC ((w.alloc (.cells #[.int .i64 af,.int .i64 an,.int .i64 ad,.bool aa] 223)).alloc (.cells #[.int .i64 bf,.int .i64 bn,.int .i64 bd,.bool ba] 223));rw[←hB,←hw1] at h1;have HB:=ah (aH hB hw1);have H1:=ah h1;obtain⟨k0,k1,k2,k3⟩:=rQ h1;obtain⟨j0,j1,j2,j3⟩:=rQ h1.p1;obtain⟨rv,dQ⟩:=aC (if af=bf then (if af=0 then (if p=q then (!aa&&ba) else decide (p<q)) else false) else decide (af<bf));rw[←dQ];have bU:=ah dQ;clear h h1 hp hq hr dQ hB hw1;unfold En.cs;by_cases c1:af=bf
 ·subst c1
  by_cases c2:af=0
  ·subst c2
   obtain⟨⟨m1,m2⟩,m3,m4⟩:=hf rfl rfl;clear hf;go_enter Tryz.func215,Tryz.ntmps215;go_upto_region 1 with fail;rw[←HB.out.1,←HB.out.2];go_upto_region 5 with fail;have hd:=H1.out.drew;obtain⟨wd,hwd⟩:=aC (w1.drew);rw[←hwd] at hd;have HD:=ah hd;have jY:=ah hwd;clear k0 k1 k2 k3 j0 j1 j2 j3 hwd;obtain⟨k0,k1,k2,k3⟩:=rQ hd;obtain⟨j0,j1,j2,j3⟩:=rQ hd.p1;clear hd;refine aG rfl (fun _=>True) [(0,.p),(1,.p),(2,.t),(3,.p),(4,.p),(5,.t),(6,.p),(7,.p),(8,.p),(9,.t),(10,.p),(11,.p),(12,.t),(13,.p),(14,.p),(15,.p)] (by kernel_rfl) ?_;rw[←jY.out];have hS0:True:=trivial;refine bG ?_;refine dJ ?_;have hwp:IntKind.i64.wrap p=p:=IntWalk.i64_in _ (by omega);have hwq:IntKind.i64.wrap q=q:=IntWalk.i64_in _ (by omega);simp only[hwp,hwq];clear e1 e2 m1 m2 m3 m4 hwp hwq;by_cases c3:p=q
   ·have HF:Hid (rv=(!aa&&ba)):=ah (by rw[bU.out,if_pos rfl,if_pos rfl,if_pos c3])
    have c3b:(p !=q)=false:=by simp[c3]
    clear bU c3;cases aa
    all_goals
     go_wp2;go_ret;exact⟨by rw[HF.out];try rfl,HD.out.drop.drop⟩
   ·have HF:Hid (rv=decide (p<q)):=ah (by rw[bU.out,if_pos rfl,if_pos rfl,if_neg c3])
    have c3b:(p !=q)=true:=by simp[c3]
    clear bU c3;go_wp2;go_ret;exact⟨by rw[HF.out];try rfl,HD.out.drop.drop⟩
  ·have HF:Hid (rv=false):=ah (by rw[bU.out,if_pos rfl,if_neg c2])
   have c2b:(af !=0)=true:=by simp[c2]
   clear bU hf e1 e2;go_enter Tryz.func215,Tryz.ntmps215;go_upto_region 1 with fail;rw[←HB.out.1,←HB.out.2];go_wp2;go_ret;exact⟨by rw[HF.out];try rfl,H1.out.drop.drop⟩
 ·have HF:Hid (rv=decide (af<bf)):=ah (by rw[bU.out,if_neg c1])
  have c1b:(af !=bf)=true:=by simp[c1]
  clear bU hf e1 e2;go_enter Tryz.func215,Tryz.ntmps215;go_upto_region 1 with fail;rw[←HB.out.1,←HB.out.2];go_wp2;go_ret;exact⟨by rw[HF.out];try rfl,H1.out.drop.drop⟩
theorem Ns {W w:World} {A:aB} (n d:Int) (hB:VB ⟨n,d⟩) (h:Sat W w A):
 Calls Tryz.prog 227 #[.agg #[.int .i64 n,.int .i64 d]] w fun e w'=>e=.returned (.bool (fD ⟨n,d⟩))∧Sat W w' A:=by
 have h1:=h.alloc (.cells #[.int .i64 n,.int .i64 d] 26);obtain⟨B,PV⟩:=aC (w.heap.size);obtain⟨w1,hw1⟩:=aC (w.alloc (.cells #[.int .i64 n,.int .i64 d] 26));rw[←PV,←hw1] at h1;obtain⟨k0,k1,-,-⟩:=kX h1;have HB:=ah (aH PV hw1);have HV:=ah (uZ ⟨n,d⟩ hB.n1 hB.n2 hB.d1 hB.d2 h1);obtain⟨o,ho⟩:=aC (okR ⟨n,d⟩);rw[←ho] at HV;have hr:fD ⟨n,d⟩=(o&&(decide (n≤1073741824)&&(decide (-1073741824≤n)&&decide (d≤32768)))):=by unfold fD;rw[ho]
 rw[hr];clear hr ho h h1 PV hw1 hB;obtain⟨v,hv⟩:=aC ((o&&(decide (n≤1073741824)&&(decide (-1073741824≤n)&&decide (d≤32768)))));rw[←hv];have HVV:=ah hv;clear hv;cases o with
 | false=>
  go_enter Tryz.func227,Tryz.ntmps227;go_upto_region 1 with fail;rw[←HB.out.1,←HB.out.2];go_wp2_with fail;refine HV.out.mono ?_;rintro e w2 ⟨rfl,h2⟩;have H2:=ah h2;clear h2 HV k0 k1;go_wp2;go_ret;exact⟨by rw[HVV.out];rfl,H2.out.drop⟩
 | true=>
  have HD:Hid ((if true=true then (0:Int) else 1)=0):=ah rfl;rcases (show n < -1073741824∨-1073741824≤n by omega) with c1|c1
  ·
   go_enter Tryz.func227,Tryz.ntmps227;go_upto_region 1 with fail;rw[←HB.out.1,←HB.out.2];go_wp2_with fail;refine HV.out.mono ?_;rintro e w2 ⟨rfl,h2⟩;obtain⟨k0,k1,-,-⟩:=kX h2;have H2:=ah h2;clear h2 HV;rw[HD.out];go_wp2;go_ret;exact⟨by rw[HVV.out,decide_eq_false (show ¬-1073741824≤n by omega)];simp,H2.out.drop⟩
  ·rcases (show 1073741824<n∨n≤1073741824 by omega) with c2|c2
   ·
    go_enter Tryz.func227,Tryz.ntmps227;go_upto_region 1 with fail;rw[←HB.out.1,←HB.out.2];go_wp2_with fail;refine HV.out.mono ?_;rintro e w2 ⟨rfl,h2⟩;obtain⟨k0,k1,-,-⟩:=kX h2;have H2:=ah h2;clear h2 HV;rw[HD.out];go_wp2;go_ret;exact⟨by rw[HVV.out,decide_eq_false (show ¬n≤1073741824 by omega)];simp,H2.out.drop⟩
   ·
    go_enter Tryz.func227,Tryz.ntmps227;go_upto_region 1 with fail;rw[←HB.out.1,←HB.out.2];go_wp2_with fail;refine HV.out.mono ?_;rintro e w2 ⟨rfl,h2⟩;obtain⟨k0,k1,-,-⟩:=kX h2;have H2:=ah h2;clear h2 HV;rw[HD.out];go_wp2;go_ret;exact⟨by rw[HVV.out,decide_eq_true c1,decide_eq_true c2];simp,H2.out.drop⟩
set_option maxRecDepth 100000 in
theorem Ie {W w:World} {A:aB} (n d:Int) (o i:Bool) (hB:VB ⟨n,d⟩) (h:Sat W w A):
 Calls Tryz.prog 226 #[.agg #[.int .i64 n,.int .i64 d],.bool o,.bool i] w fun e w'=>e=.returned (.bool (wI ⟨n,d⟩ o i))∧Sat W w' A:=by
 have h1:=h.iy (.cells #[.int .i64 n,.int .i64 d] 26);obtain⟨w1,hw1⟩:=aC (w.alloc (.cells #[.int .i64 n,.int .i64 d] 26));obtain⟨rv,dQ⟩:=aC (wI ⟨n,d⟩ o i);have HS:=ah (Ns n d hB h1);have H1:=ah h1;rw[←dQ];have bU:=ah dQ;have hn1:∀w0,(binOp .eql 26 (.agg #[.int .i64 n,.int .i64 d]) (.agg #[.int .i64 0,.int .i64 0])).run Tryz.prog w0=.ok (.bool (n==0&&d==0)) w0:=fun w0=>JO w0 n d 0 0
 clear dQ hB h h1 hw1;cases i with
 | false=>
  go_enter Tryz.func226,Tryz.ntmps226;go_wp2_with fail;refine HS.out.mono ?_;rintro e w2 ⟨rfl,h2⟩;have H2:=ah h2;clear h2 HS;go_wp2;go_ret;exact⟨by rw[bU.out];rfl,H2.out⟩
 | true=>
  obtain⟨z,hz⟩:=aC ((n==0&&d==0));rw[←hz] at hn1;have HZ:Hid (rv=(z&&!o)):=ah (by rw[bU.out,hz];rfl);clear hz bU HS;cases z
  all_goals
   go_enter Tryz.func226,Tryz.ntmps226;go_wp2;go_ret;exact⟨by rw[HZ.out];rfl,H1.out⟩
end Go.Proofs.YthfmaclnccdcbaaGreatDoor
namespace PA
open Go Go.RowKit
def V3:Nat→List Nat:=fun x=>if x=13 then [11] else if x=14 then [12] else []
def BH (E i j:Nat) (cs:List Value) (f:Nat→Option Value):aB:=
 match f i with
 | none=>emp
 | some v=>ex fun g:Nat=>sep (fact (v=.pointer (some ⟨g,0,none⟩))) (blk g (.cells (match f j with|none=>#[.int .i64 0,.int .i64 0,.int .i64 0,.bool false]|some _=>cs.toArray) E (0,0)))
theorem qX {E i j:Nat} {cs:List Value} {f:Nat→Option Value} (h:f i=none):BH E i j cs f=emp:=by unfold BH;rw[h]
theorem yI {E i j:Nat} {cs:List Value} {f:Nat→Option Value} {v:Value} {y:Nat} (h1:i≠y) (h2:j≠y):BH E i j cs (fO f y v)=BH E i j cs f:=by unfold BH;rw[aN h1,aN h2]
theorem uK {W w:World} {E i j:Nat} {cs:List Value} {f:Nat→Option Value} {v:Value} {R:aB} (h:f i=some v) (h2:f j=none):Sat W w (sep (BH E i j cs f) R)↔∃g,v=.pointer (some ⟨g,0,none⟩)∧Sat W w (sep (blk g (.cells #[.int .i64 0,.int .i64 0,.int .i64 0,.bool false] E (0,0))) R):=by
 unfold BH;rw[h,h2];simp only;rw[fP,Sat.ex];constructor
 ·rintro⟨g,h⟩;rw[aj] at h;exact⟨g,Sat.fact.1 h⟩
 ·rintro⟨g,h⟩;exact⟨g,by rw[aj];exact Sat.fact.2 h⟩
theorem qW {W w:World} {E i j:Nat} {cs:List Value} {f:Nat→Option Value} {v u:Value} {R:aB} (h:f i=some v) (h2:f j=some u):Sat W w (sep (BH E i j cs f) R)↔∃g,v=.pointer (some ⟨g,0,none⟩)∧Sat W w (sep (blk g (.cells cs.toArray E (0,0))) R):=by
 unfold BH;rw[h,h2];simp only;rw[fP,Sat.ex];constructor
 ·rintro⟨g,h⟩;rw[aj] at h;exact⟨g,Sat.fact.1 h⟩
 ·rintro⟨g,h⟩;exact⟨g,by rw[aj];exact Sat.fact.2 h⟩
theorem Hl {W w:World} {E i j:Nat} {cs:List Value} {f:Nat→Option Value} {R:aB} (h:Sat W w (sep (BH E i j cs f) R)):Sat W w R:=by
 cases hi:f i with
 | none=>rw[qX hi,jc] at h;exact h
 | some v=>
  cases hj:f j with
  | none=>obtain⟨g,-,h1⟩:=(uK hi hj).1 h;exact h1.drop
  | some u=>obtain⟨g,-,h1⟩:=(qW hi hj).1 h;exact h1.drop
def Bc (E:Nat) (lo hi:List Value) (X:aB) (f:Nat→Option Value):aB:=sep (BH E 11 13 lo f) (sep (BH E 12 14 hi f) X)
end PA
namespace Go.Proofs.YthfmaclnccdcbaaGreatDoor
open Go.RowKit PA
set_option maxRecDepth 100000 in
set_option maxHeartbeats 4000000 in
theorem xW {W w:World} {A:aB} (x:Iv) (h:Sat W w A):
 Calls Tryz.prog 214 #[.agg (Hw x)] w fun e w'=>e=.returned (.tuple #[.agg (Et x).cs.toArray,.agg (Ef x).cs.toArray])∧Sat W w' A:=by
 obtain⟨ln,ld,hn,hd,lo,ho,li,hi⟩:=x;have h1:=((h.alloc (.cells #[.int .i64 ln,.int .i64 ld,.int .i64 hn,.int .i64 hd,.bool lo,.bool ho,.bool li,.bool hi] 159)).alloc (.cells #[.int .i64 0,.int .i64 0,.int .i64 0,.bool false] 223)).alloc (.cells #[.int .i64 0,.int .i64 0,.int .i64 0,.bool false] 223);simp only[World.size_alloc] at h1;obtain⟨B,hB⟩:=aC (w.heap.size);obtain⟨w1,hw1⟩:=aC (((w.alloc (.cells #[.int .i64 ln,.int .i64 ld,.int .i64 hn,.int .i64 hd,.bool lo,.bool ho,.bool li,.bool hi] 159)).alloc (.cells #[.int .i64 0,.int .i64 0,.int .i64 0,.bool false] 223)).alloc (.cells #[.int .i64 0,.int .i64 0,.int .i64 0,.bool false] 223));rw[←hB,←hw1] at h1;have HB:=ah (aH hB hw1);obtain⟨X,hX⟩:=aC (sep (blk (B+2) (.cells #[.int .i64 0,.int .i64 0,.int .i64 0,.bool false] 223 (0,0))) (sep (blk (B+1) (.cells #[.int .i64 0,.int .i64 0,.int .i64 0,.bool false] 223 (0,0))) (sep (blk B (.cells #[.int .i64 ln,.int .i64 ld,.int .i64 hn,.int .i64 hd,.bool lo,.bool ho,.bool li,.bool hi] 159 (0,0))) A)));have hd1:Sat W w1.drew X:=by rw[hX];exact h1.drew
 obtain⟨wd,hwd⟩:=aC (w1.drew);rw[←hwd] at hd1;have jY:=ah hwd;have HX:=ah hX;have HT0:Hid (Sat W wd (Bc 223 [.int .i64 0,.int .i64 ln,.int .i64 ld,.bool lo] [.int .i64 0,.int .i64 hn,.int .i64 hd,.bool !ho] X (fun _=>none))):=ah (by
  unfold Bc;rw[qX rfl,qX rfl,jc,jc];exact hd1)
 have wL:Hid (∀w',Sat W w' X→w'.cell? ⟨B,0,none⟩=some (.int .i64 ln)∧w'.cell? ⟨B,1,none⟩=some (.int .i64 ld)∧w'.cell? ⟨B,2,none⟩=some (.int .i64 hn)∧w'.cell? ⟨B,3,none⟩=some (.int .i64 hd)∧w'.cell? ⟨B,4,none⟩=some (.bool lo)∧w'.cell? ⟨B,5,none⟩=some (.bool ho)):=ah fun w' h'=>by
  rw[HX.out] at h';have h2:=Nk h'.p2;exact⟨h2.1,h2.2.1,h2.2.2.1,h2.2.2.2.1,h2.2.2.2.2.1,h2.2.2.2.2.2.1⟩
 have Z4:Hid (∀w' Y,Sat W w' (sep X Y)→w'.cell? ⟨B,6,none⟩=some (.bool li)∧w'.cell? ⟨B,7,none⟩=some (.bool hi)):=ah fun w' Y h'=>by
  rw[HX.out] at h';simp only[aj] at h';have h2:=Nk h'.p2;exact⟨h2.2.2.2.2.2.2.1,h2.2.2.2.2.2.2.2⟩
 have hS0:=wL.out wd hd1;clear h h1 hB hw1 hd1 hwd hX;unfold Hw;go_enter Tryz.func214,Tryz.ntmps214;go_upto_region 1 with fail;rw[←HB.out.1,←HB.out.2];go_cut [4,5] from 6 to 17 (fun u v wx=>∃g1 g2:Nat,u=.pointer (some ⟨g1,0,none⟩)∧v=.pointer (some ⟨g2,0,none⟩)∧Sat W wx (sep (blk g1 (.cells #[.int .i64 0,.int .i64 ln,.int .i64 ld,.bool lo] 223 (0,0))) (sep (blk g2 (.cells #[.int .i64 0,.int .i64 hn,.int .i64 hd,.bool !ho] 223 (0,0))) X)))
 case first=>
  as_aux_lemma=>
  refine fE rfl (fun w'=>w'.cell? ⟨B,0,none⟩=some (.int .i64 ln)∧w'.cell? ⟨B,1,none⟩=some (.int .i64 ld)∧w'.cell? ⟨B,2,none⟩=some (.int .i64 hn)∧w'.cell? ⟨B,3,none⟩=some (.int .i64 hd)∧w'.cell? ⟨B,4,none⟩=some (.bool lo)∧w'.cell? ⟨B,5,none⟩=some (.bool ho)) [.one 0 .p,.one 1 .s,.one 2 .p,.one 3 .s,.one 4 .p,.one 5 .p,.one 6 .s,.one 7 .p,.one 8 .s,.one 9 .p,.one 10 .p,.grp true [(11,[]),(12,[]),(13,[]),(14,[])]] (by kernel_rfl) ?_;rw[←jY.out];refine mG ?_;refine Dp (n:=4) rfl ?_;clear hS0;refine kL [11,12,13,14] V3 (Bc 223 [.int .i64 0,.int .i64 ln,.int .i64 ld,.bool lo] [.int .i64 0,.int .i64 hn,.int .i64 hd,.bool !ho] X) (by kernel_rfl) (by kernel_rfl) ?_ ?_ ?_ 4 [11,12,13,14] (fun _=>none) wd rfl (by decide) (fun z=>by simp) (fun _ _ h=>by cases h) HT0.out
  ·intro _ f w' hT
   exact wL.out w' (Hl (Hl hT))
  ·intro y hy f w' o' ho Jm fK hcl hT
   simp only[List.mem_cons,List.not_mem_nil,or_false] at hy;rcases hy with rfl|rfl|rfl|rfl
   ·as_aux_lemma=>
    cases ho;have h13:f 13=none:=by
     cases h10:f 13 with
     | none=>rfl
     | some v=>have:=hcl 13 (by decide) (by rw[h10];rfl) 11 (by decide);rw[Jm] at this;cases this
    unfold Bc at hT ⊢;rw[qX Jm,jc] at hT;refine .inl (.inl ⟨.pointer (some ⟨w'.heap.size,0,none⟩),w'.alloc (.cells #[.int .i64 0,.int .i64 0,.int .i64 0,.bool false] 223),?_,?_⟩)
    ·(go_simp;try rfl)
    ·show Sat W _ (sep _ (sep _ _))
     rw[uK dG (by rw[aN (by decide)];exact h13),yI (by decide) (by decide)];exact⟨_,rfl,hT.alloc _⟩
   ·as_aux_lemma=>
    cases ho;have wG:f 14=none:=by
     cases h10:f 14 with
     | none=>rfl
     | some v=>have:=hcl 14 (by decide) (by rw[h10];rfl) 12 (by decide);rw[Jm] at this;cases this
    unfold Bc at hT ⊢;rw[qX Jm,jc] at hT;refine .inl (.inl ⟨.pointer (some ⟨w'.heap.size,0,none⟩),w'.alloc (.cells #[.int .i64 0,.int .i64 0,.int .i64 0,.bool false] 223),?_,?_⟩)
    ·(go_simp;try rfl)
    ·show Sat W _ (sep _ (sep _ _))
     rw[au,uK dG (by rw[aN (by decide)];exact wG),yI (by decide) (by decide)];exact⟨_,rfl,hT.alloc _⟩
   ·as_aux_lemma=>
    cases ho;obtain⟨v11,yL⟩:=cO (fK 11 (by decide));unfold Bc at hT ⊢;obtain⟨g,rfl,h2⟩:=(uK yL Jm).1 hT;obtain⟨k0,k1,k2,k3⟩:=rQ h2;obtain⟨u0,u1,u2,u3⟩:=kT h2;refine .inr ⟨(((w'.setCell ⟨g,0,none⟩ (.int .i64 0)).setCell ⟨g,1,none⟩ (.int .i64 ln)).setCell ⟨g,2,none⟩ (.int .i64 ld)).setCell ⟨g,3,none⟩ (.bool lo),?_,?_⟩
    ·simp[dB,List.filter,V3,yL,aU,Act.put]
     (go_simp;try rfl)
    ·show Sat W _ (sep _ (sep _ _))
     rw[qW (by rw[aN (by decide)];exact yL) dG,yI (by decide) (by decide)];exact⟨g,rfl,jl h2 _ _ _ _⟩
   ·as_aux_lemma=>
    cases ho;obtain⟨v12,l7⟩:=cO (fK 12 (by decide));unfold Bc at hT ⊢;rw[au] at hT;obtain⟨g,rfl,h2⟩:=(uK l7 Jm).1 hT;obtain⟨k0,k1,k2,k3⟩:=rQ h2;obtain⟨u0,u1,u2,u3⟩:=kT h2;refine .inr ⟨(((w'.setCell ⟨g,0,none⟩ (.int .i64 0)).setCell ⟨g,1,none⟩ (.int .i64 hn)).setCell ⟨g,2,none⟩ (.int .i64 hd)).setCell ⟨g,3,none⟩ (.bool !ho),?_,?_⟩
    ·simp[dB,List.filter,V3,l7,aU,Act.put]
     (go_simp;try rfl)
    ·show Sat W _ (sep _ (sep _ _))
     rw[au,qW (by rw[aN (by decide)];exact l7) dG,yI (by decide) (by decide)];exact⟨g,rfl,jl h2 _ _ _ _⟩
  ·as_aux_lemma=>
   intro f w' hall hT;obtain⟨v11,yL⟩:=cO (hall 11 (by decide));obtain⟨v12,l7⟩:=cO (hall 12 (by decide));obtain⟨v13,MN⟩:=cO (hall 13 (by decide));obtain⟨v14,P8⟩:=cO (hall 14 (by decide));unfold Bc at hT;obtain⟨g1,rfl,h2⟩:=(qW yL MN).1 hT;rw[au] at h2;obtain⟨g2,rfl,h3⟩:=(qW l7 P8).1 h2;rw[au] at h3;have H3:=ah h3;simp only[dB,List.foldl,yL,l7,MN,P8,aU];clear h3 h2 hT hall yL l7 MN P8;simp only[Act.put,Ec,Ed,Ee,Option.bind_some,lsA,lsB,lq];refine wM ?_;go_wp2;go_meet;case rel=>exact⟨g1,g2,rfl,rfl,H3.out⟩
 case rest=>
  obtain⟨g1,g2,rfl,rfl,hS⟩:=hcut;clear HT0 wL hS0 HB jY;cases li with
  | false=>
   cases hi with
   | false=>
    as_aux_lemma=>
    have cl:=(Z4.out wc _ (show Sat W wc (sep X (sep (blk g1 (.cells #[.int .i64 0,.int .i64 ln,.int .i64 ld,.bool lo] 223 (0,0))) (blk g2 (.cells #[.int .i64 0,.int .i64 hn,.int .i64 hd,.bool (!ho)] 223 (0,0))))) by simpa only[aA,au,aj] using hS)).1;have H2:=ah hS.p1;clear hS;go_upto_region 4 with fail;clear cl;have ch:=(Z4.out wc _ (show Sat W wc (sep X (sep (blk g1 (.cells #[.int .i64 0,.int .i64 ln,.int .i64 ld,.bool lo] 223 (0,0))) (blk g2 (.cells #[.int .i64 0,.int .i64 hn,.int .i64 hd,.bool (!ho)] 223 (0,0))))) by simpa only[aA,au,aj] using H2.out)).2;have H3:=ah H2.out.p1;clear H2;go_upto_region 6 with fail;clear ch;have hD:=H3.out.drew;obtain⟨wd,hwd⟩:=aC (wc.drew);rw[←hwd] at hD;have jY:=ah hwd;obtain⟨a0,a1,a2,a3⟩:=rQ hD;have hS0:wd.cell? ⟨g2,0,none⟩=some (.int .i64 0)∧wd.cell? ⟨g2,1,none⟩=some (.int .i64 hn)∧wd.cell? ⟨g2,2,none⟩=some (.int .i64 hd)∧wd.cell? ⟨g2,3,none⟩=some (.bool (!ho)):=rQ hD.p1;rw[HX.out] at hD;have r1:=hD.p3;obtain⟨b0,b1,b2,b3⟩:=rQ r1;obtain⟨c0,c1,c2,c3⟩:=kT r1;have h5:=jl r1 (.int .i64 0) (.int .i64 ln) (.int .i64 ld) (.bool lo);obtain⟨w5,hw5⟩:=aC ((((wd.setCell ⟨B+1,0,none⟩ (.int .i64 0)).setCell ⟨B+1,1,none⟩ (.int .i64 ln)).setCell ⟨B+1,2,none⟩ (.int .i64 ld)).setCell ⟨B+1,3,none⟩ (.bool lo));rw[←hw5] at h5;have KX:=ah hw5;have Ci:Hid (w5.cell? ⟨g2,0,none⟩=some (.int .i64 0)∧w5.cell? ⟨g2,1,none⟩=some (.int .i64 hn)∧w5.cell? ⟨g2,2,none⟩=some (.int .i64 hd)∧w5.cell? ⟨g2,3,none⟩=some (.bool (!ho))):=ah (rQ h5.p2);have r2:=h5.p3;obtain⟨d0,d1,d2,d3⟩:=rQ r2;obtain⟨e0,e1,e2,e3⟩:=kT r2;have h6:=jl r2 (.int .i64 0) (.int .i64 hn) (.int .i64 hd) (.bool (!ho));obtain⟨w6,hw6⟩:=aC ((((w5.setCell ⟨B+2,0,none⟩ (.int .i64 0)).setCell ⟨B+2,1,none⟩ (.int .i64 hn)).setCell ⟨B+2,2,none⟩ (.int .i64 hd)).setCell ⟨B+2,3,none⟩ (.bool (!ho)));rw[←hw6] at h6;have OZ:=ah hw6;have HR2:Hid (w6.cell? ⟨B+2,0,none⟩=some (.int .i64 0)∧w6.cell? ⟨B+2,1,none⟩=some (.int .i64 hn)∧w6.cell? ⟨B+2,2,none⟩=some (.int .i64 hd)∧w6.cell? ⟨B+2,3,none⟩=some (.bool (!ho))):=ah (rQ h6)
    have HR1:Hid (w6.cell? ⟨B+1,0,none⟩=some (.int .i64 0)∧w6.cell? ⟨B+1,1,none⟩=some (.int .i64 ln)∧w6.cell? ⟨B+1,2,none⟩=some (.int .i64 ld)∧w6.cell? ⟨B+1,3,none⟩=some (.bool lo)):=ah (rQ h6.p1);have H6:=ah h6.forget.forget.forget.forget.forget;clear hwd hD r1 h5 hw5 r2 h6 hw6 H3;refine aG rfl (fun w'=>w'.cell? ⟨g2,0,none⟩=some (.int .i64 0)∧w'.cell? ⟨g2,1,none⟩=some (.int .i64 hn)∧w'.cell? ⟨g2,2,none⟩=some (.int .i64 hd)∧w'.cell? ⟨g2,3,none⟩=some (.bool (!ho))) [(0,.t),(1,.s),(2,.e true),(3,.e false)] (by kernel_rfl) ?_;rw[←jY.out];refine bG ?_;clear a0 a1 a2 a3
    (refine jJ rfl rfl (fun K hK=>?_);go_simp)
    rw[←KX.out]
    (refine hK _ _ (fun _=>Ci.out) ?_;clear hK K;(try simp only[Act.put,lsA,lsB,lq]))
    clear hS0 b0 b1 b2 b3 c0 c1 c2 c3 KX jY
    (refine jJ rfl rfl (fun K hK=>?_);go_simp)
    rw[←OZ.out];refine dY ?_;clear hK K;refine dJ ?_;clear d0 d1 d2 d3 e0 e1 e2 e3 OZ Ci;obtain⟨d0,d1,d2,d3⟩:=HR2.out;obtain⟨e0,e1,e2,e3⟩:=HR1.out;go_wp2;exact bodyPost_ret (v:=.tuple #[.agg #[.int .i64 0,.int .i64 ln,.int .i64 ld,.bool lo],.agg #[.int .i64 0,.int .i64 hn,.int .i64 hd,.bool (!ho)]]) (by simp[results,Tryz.results214,go_sem,d0,d1,d2,d3,e0,e1,e2,e3]) rfl ⟨rfl,H6.out⟩
   | true=>
    as_aux_lemma=>
    have cl:=(Z4.out wc _ (show Sat W wc (sep X (sep (blk g1 (.cells #[.int .i64 0,.int .i64 ln,.int .i64 ld,.bool lo] 223 (0,0))) (blk g2 (.cells #[.int .i64 0,.int .i64 hn,.int .i64 hd,.bool (!ho)] 223 (0,0))))) by simpa only[aA,au,aj] using hS)).1;have H2:=ah hS.p1;clear hS;go_upto_region 4 with fail;clear cl;have ch:=(Z4.out wc _ (show Sat W wc (sep X (sep (blk g1 (.cells #[.int .i64 0,.int .i64 ln,.int .i64 ld,.bool lo] 223 (0,0))) (blk g2 (.cells #[.int .i64 0,.int .i64 hn,.int .i64 hd,.bool (!ho)] 223 (0,0))))) by simpa only[aA,au,aj] using H2.out)).2;obtain⟨k0,k1,k2,k3⟩:=rQ H2.out;obtain⟨u0,u1,u2,u3⟩:=kT H2.out;have h3:=jl H2.out (.int .i64 1) (.int .i64 0) (.int .i64 0) (.bool false);obtain⟨w3,hw3⟩:=aC ((((wc.setCell ⟨g2,0,none⟩ (.int .i64 1)).setCell ⟨g2,1,none⟩ (.int .i64 0)).setCell ⟨g2,2,none⟩ (.int .i64 0)).setCell ⟨g2,3,none⟩ (.bool false));rw[←hw3] at h3;have HW3:=ah hw3;have H3:=ah h3.p1;clear hw3 h3 H2;go_upto_region 6 with fail;rw[←HW3.out];clear k0 k1 k2 k3 u0 u1 u2 u3 HW3 ch;have hD:=H3.out.drew;obtain⟨wd,hwd⟩:=aC (w3.drew);rw[←hwd] at hD;have jY:=ah hwd;obtain⟨a0,a1,a2,a3⟩:=rQ hD;have hS0:wd.cell? ⟨g2,0,none⟩=some (.int .i64 1)∧wd.cell? ⟨g2,1,none⟩=some (.int .i64 0)∧wd.cell? ⟨g2,2,none⟩=some (.int .i64 0)∧wd.cell? ⟨g2,3,none⟩=some (.bool false):=rQ hD.p1;rw[HX.out] at hD;have r1:=hD.p3;obtain⟨b0,b1,b2,b3⟩:=rQ r1;obtain⟨c0,c1,c2,c3⟩:=kT r1;have h5:=jl r1 (.int .i64 0) (.int .i64 ln) (.int .i64 ld) (.bool lo);obtain⟨w5,hw5⟩:=aC ((((wd.setCell ⟨B+1,0,none⟩ (.int .i64 0)).setCell ⟨B+1,1,none⟩ (.int .i64 ln)).setCell ⟨B+1,2,none⟩ (.int .i64 ld)).setCell ⟨B+1,3,none⟩ (.bool lo));rw[←hw5] at h5;have KX:=ah hw5;have Ci:Hid (w5.cell? ⟨g2,0,none⟩=some (.int .i64 1)∧w5.cell? ⟨g2,1,none⟩=some (.int .i64 0)∧w5.cell? ⟨g2,2,none⟩=some (.int .i64 0)∧w5.cell? ⟨g2,3,none⟩=some (.bool false)):=ah (rQ h5.p2);have r2:=h5.p3;obtain⟨d0,d1,d2,d3⟩:=rQ r2;obtain⟨e0,e1,e2,e3⟩:=kT r2;have h6:=jl r2 (.int .i64 1) (.int .i64 0) (.int .i64 0) (.bool false)
    obtain⟨w6,hw6⟩:=aC ((((w5.setCell ⟨B+2,0,none⟩ (.int .i64 1)).setCell ⟨B+2,1,none⟩ (.int .i64 0)).setCell ⟨B+2,2,none⟩ (.int .i64 0)).setCell ⟨B+2,3,none⟩ (.bool false));rw[←hw6] at h6;have OZ:=ah hw6;have HR2:Hid (w6.cell? ⟨B+2,0,none⟩=some (.int .i64 1)∧w6.cell? ⟨B+2,1,none⟩=some (.int .i64 0)∧w6.cell? ⟨B+2,2,none⟩=some (.int .i64 0)∧w6.cell? ⟨B+2,3,none⟩=some (.bool false)):=ah (rQ h6);have HR1:Hid (w6.cell? ⟨B+1,0,none⟩=some (.int .i64 0)∧w6.cell? ⟨B+1,1,none⟩=some (.int .i64 ln)∧w6.cell? ⟨B+1,2,none⟩=some (.int .i64 ld)∧w6.cell? ⟨B+1,3,none⟩=some (.bool lo)):=ah (rQ h6.p1);have H6:=ah h6.forget.forget.forget.forget.forget;clear hwd hD r1 h5 hw5 r2 h6 hw6 H3;refine aG rfl (fun w'=>w'.cell? ⟨g2,0,none⟩=some (.int .i64 1)∧w'.cell? ⟨g2,1,none⟩=some (.int .i64 0)∧w'.cell? ⟨g2,2,none⟩=some (.int .i64 0)∧w'.cell? ⟨g2,3,none⟩=some (.bool false)) [(0,.t),(1,.s),(2,.e true),(3,.e false)] (by kernel_rfl) ?_;rw[←jY.out];refine bG ?_;clear a0 a1 a2 a3
    (refine jJ rfl rfl (fun K hK=>?_);go_simp)
    rw[←KX.out]
    (refine hK _ _ (fun _=>Ci.out) ?_;clear hK K;(try simp only[Act.put,lsA,lsB,lq]))
    clear hS0 b0 b1 b2 b3 c0 c1 c2 c3 KX jY
    (refine jJ rfl rfl (fun K hK=>?_);go_simp)
    rw[←OZ.out];refine dY ?_;clear hK K;refine dJ ?_;clear d0 d1 d2 d3 e0 e1 e2 e3 OZ Ci;obtain⟨d0,d1,d2,d3⟩:=HR2.out;obtain⟨e0,e1,e2,e3⟩:=HR1.out;go_wp2;exact bodyPost_ret (v:=.tuple #[.agg #[.int .i64 0,.int .i64 ln,.int .i64 ld,.bool lo],.agg #[.int .i64 1,.int .i64 0,.int .i64 0,.bool false]]) (by simp[results,Tryz.results214,go_sem,d0,d1,d2,d3,e0,e1,e2,e3]) rfl ⟨rfl,H6.out⟩
  | true=>
   cases hi with
   | false=>
    as_aux_lemma=>
    have cl:=(Z4.out wc _ (show Sat W wc (sep X (sep (blk g1 (.cells #[.int .i64 0,.int .i64 ln,.int .i64 ld,.bool lo] 223 (0,0))) (blk g2 (.cells #[.int .i64 0,.int .i64 hn,.int .i64 hd,.bool (!ho)] 223 (0,0))))) by simpa only[aA,au,aj] using hS)).1;obtain⟨k0,k1,k2,k3⟩:=rQ hS;obtain⟨u0,u1,u2,u3⟩:=kT hS;have h2:=jl hS (.int .i64 (-1)) (.int .i64 0) (.int .i64 0) (.bool false);obtain⟨w2,hw2⟩:=aC ((((wc.setCell ⟨g1,0,none⟩ (.int .i64 (-1))).setCell ⟨g1,1,none⟩ (.int .i64 0)).setCell ⟨g1,2,none⟩ (.int .i64 0)).setCell ⟨g1,3,none⟩ (.bool false));rw[←hw2] at h2;have HW2:=ah hw2;have H2:=ah h2.p1;clear hw2 h2 hS;go_upto_region 4 with fail;rw[←HW2.out];clear k0 k1 k2 k3 u0 u1 u2 u3 HW2 cl;have ch:=(Z4.out w2 _ (show Sat W w2 (sep X (sep (blk g1 (.cells #[.int .i64 (-1),.int .i64 0,.int .i64 0,.bool false] 223 (0,0))) (blk g2 (.cells #[.int .i64 0,.int .i64 hn,.int .i64 hd,.bool (!ho)] 223 (0,0))))) by simpa only[aA,au,aj] using H2.out)).2;have H3:=ah H2.out.p1;clear H2;go_upto_region 6 with fail;clear ch;have hD:=H3.out.drew;obtain⟨wd,hwd⟩:=aC (w2.drew);rw[←hwd] at hD;have jY:=ah hwd;obtain⟨a0,a1,a2,a3⟩:=rQ hD;have hS0:wd.cell? ⟨g2,0,none⟩=some (.int .i64 0)∧wd.cell? ⟨g2,1,none⟩=some (.int .i64 hn)∧wd.cell? ⟨g2,2,none⟩=some (.int .i64 hd)∧wd.cell? ⟨g2,3,none⟩=some (.bool (!ho)):=rQ hD.p1;rw[HX.out] at hD;have r1:=hD.p3;obtain⟨b0,b1,b2,b3⟩:=rQ r1;obtain⟨c0,c1,c2,c3⟩:=kT r1;have h5:=jl r1 (.int .i64 (-1)) (.int .i64 0) (.int .i64 0) (.bool false);obtain⟨w5,hw5⟩:=aC ((((wd.setCell ⟨B+1,0,none⟩ (.int .i64 (-1))).setCell ⟨B+1,1,none⟩ (.int .i64 0)).setCell ⟨B+1,2,none⟩ (.int .i64 0)).setCell ⟨B+1,3,none⟩ (.bool false));rw[←hw5] at h5;have KX:=ah hw5;have Ci:Hid (w5.cell? ⟨g2,0,none⟩=some (.int .i64 0)∧w5.cell? ⟨g2,1,none⟩=some (.int .i64 hn)∧w5.cell? ⟨g2,2,none⟩=some (.int .i64 hd)∧w5.cell? ⟨g2,3,none⟩=some (.bool (!ho))):=ah (rQ h5.p2);have r2:=h5.p3;obtain⟨d0,d1,d2,d3⟩:=rQ r2;obtain⟨e0,e1,e2,e3⟩:=kT r2
    have h6:=jl r2 (.int .i64 0) (.int .i64 hn) (.int .i64 hd) (.bool (!ho));obtain⟨w6,hw6⟩:=aC ((((w5.setCell ⟨B+2,0,none⟩ (.int .i64 0)).setCell ⟨B+2,1,none⟩ (.int .i64 hn)).setCell ⟨B+2,2,none⟩ (.int .i64 hd)).setCell ⟨B+2,3,none⟩ (.bool (!ho)));rw[←hw6] at h6;have OZ:=ah hw6;have HR2:Hid (w6.cell? ⟨B+2,0,none⟩=some (.int .i64 0)∧w6.cell? ⟨B+2,1,none⟩=some (.int .i64 hn)∧w6.cell? ⟨B+2,2,none⟩=some (.int .i64 hd)∧w6.cell? ⟨B+2,3,none⟩=some (.bool (!ho))):=ah (rQ h6);have HR1:Hid (w6.cell? ⟨B+1,0,none⟩=some (.int .i64 (-1))∧w6.cell? ⟨B+1,1,none⟩=some (.int .i64 0)∧w6.cell? ⟨B+1,2,none⟩=some (.int .i64 0)∧w6.cell? ⟨B+1,3,none⟩=some (.bool false)):=ah (rQ h6.p1);have H6:=ah h6.forget.forget.forget.forget.forget;clear hwd hD r1 h5 hw5 r2 h6 hw6 H3;refine aG rfl (fun w'=>w'.cell? ⟨g2,0,none⟩=some (.int .i64 0)∧w'.cell? ⟨g2,1,none⟩=some (.int .i64 hn)∧w'.cell? ⟨g2,2,none⟩=some (.int .i64 hd)∧w'.cell? ⟨g2,3,none⟩=some (.bool (!ho))) [(0,.t),(1,.s),(2,.e true),(3,.e false)] (by kernel_rfl) ?_;rw[←jY.out];refine bG ?_;clear a0 a1 a2 a3
    (refine jJ rfl rfl (fun K hK=>?_);go_simp)
    rw[←KX.out]
    (refine hK _ _ (fun _=>Ci.out) ?_;clear hK K;(try simp only[Act.put,lsA,lsB,lq]))
    clear hS0 b0 b1 b2 b3 c0 c1 c2 c3 KX jY
    (refine jJ rfl rfl (fun K hK=>?_);go_simp)
    rw[←OZ.out];refine dY ?_;clear hK K;refine dJ ?_;clear d0 d1 d2 d3 e0 e1 e2 e3 OZ Ci;obtain⟨d0,d1,d2,d3⟩:=HR2.out;obtain⟨e0,e1,e2,e3⟩:=HR1.out;go_wp2;exact bodyPost_ret (v:=.tuple #[.agg #[.int .i64 (-1),.int .i64 0,.int .i64 0,.bool false],.agg #[.int .i64 0,.int .i64 hn,.int .i64 hd,.bool (!ho)]]) (by simp[results,Tryz.results214,go_sem,d0,d1,d2,d3,e0,e1,e2,e3]) rfl ⟨rfl,H6.out⟩
   | true=>
    as_aux_lemma=>
    have cl:=(Z4.out wc _ (show Sat W wc (sep X (sep (blk g1 (.cells #[.int .i64 0,.int .i64 ln,.int .i64 ld,.bool lo] 223 (0,0))) (blk g2 (.cells #[.int .i64 0,.int .i64 hn,.int .i64 hd,.bool (!ho)] 223 (0,0))))) by simpa only[aA,au,aj] using hS)).1;obtain⟨k0,k1,k2,k3⟩:=rQ hS;obtain⟨u0,u1,u2,u3⟩:=kT hS;have h2:=jl hS (.int .i64 (-1)) (.int .i64 0) (.int .i64 0) (.bool false);obtain⟨w2,hw2⟩:=aC ((((wc.setCell ⟨g1,0,none⟩ (.int .i64 (-1))).setCell ⟨g1,1,none⟩ (.int .i64 0)).setCell ⟨g1,2,none⟩ (.int .i64 0)).setCell ⟨g1,3,none⟩ (.bool false));rw[←hw2] at h2;have HW2:=ah hw2;have H2:=ah h2.p1;clear hw2 h2 hS;go_upto_region 4 with fail;rw[←HW2.out];clear k0 k1 k2 k3 u0 u1 u2 u3 HW2 cl;have ch:=(Z4.out w2 _ (show Sat W w2 (sep X (sep (blk g1 (.cells #[.int .i64 (-1),.int .i64 0,.int .i64 0,.bool false] 223 (0,0))) (blk g2 (.cells #[.int .i64 0,.int .i64 hn,.int .i64 hd,.bool (!ho)] 223 (0,0))))) by simpa only[aA,au,aj] using H2.out)).2;obtain⟨k0,k1,k2,k3⟩:=rQ H2.out;obtain⟨u0,u1,u2,u3⟩:=kT H2.out;have h3:=jl H2.out (.int .i64 1) (.int .i64 0) (.int .i64 0) (.bool false);obtain⟨w3,hw3⟩:=aC ((((w2.setCell ⟨g2,0,none⟩ (.int .i64 1)).setCell ⟨g2,1,none⟩ (.int .i64 0)).setCell ⟨g2,2,none⟩ (.int .i64 0)).setCell ⟨g2,3,none⟩ (.bool false));rw[←hw3] at h3;have HW3:=ah hw3;have H3:=ah h3.p1;clear hw3 h3 H2;go_upto_region 6 with fail;rw[←HW3.out];clear k0 k1 k2 k3 u0 u1 u2 u3 HW3 ch;have hD:=H3.out.drew;obtain⟨wd,hwd⟩:=aC (w3.drew);rw[←hwd] at hD;have jY:=ah hwd;obtain⟨a0,a1,a2,a3⟩:=rQ hD;have hS0:wd.cell? ⟨g2,0,none⟩=some (.int .i64 1)∧wd.cell? ⟨g2,1,none⟩=some (.int .i64 0)∧wd.cell? ⟨g2,2,none⟩=some (.int .i64 0)∧wd.cell? ⟨g2,3,none⟩=some (.bool false):=rQ hD.p1;rw[HX.out] at hD;have r1:=hD.p3;obtain⟨b0,b1,b2,b3⟩:=rQ r1;obtain⟨c0,c1,c2,c3⟩:=kT r1;have h5:=jl r1 (.int .i64 (-1)) (.int .i64 0) (.int .i64 0) (.bool false);obtain⟨w5,hw5⟩:=aC ((((wd.setCell ⟨B+1,0,none⟩ (.int .i64 (-1))).setCell ⟨B+1,1,none⟩ (.int .i64 0)).setCell ⟨B+1,2,none⟩ (.int .i64 0)).setCell ⟨B+1,3,none⟩ (.bool false))
    rw[←hw5] at h5;have KX:=ah hw5;have Ci:Hid (w5.cell? ⟨g2,0,none⟩=some (.int .i64 1)∧w5.cell? ⟨g2,1,none⟩=some (.int .i64 0)∧w5.cell? ⟨g2,2,none⟩=some (.int .i64 0)∧w5.cell? ⟨g2,3,none⟩=some (.bool false)):=ah (rQ h5.p2);have r2:=h5.p3;obtain⟨d0,d1,d2,d3⟩:=rQ r2;obtain⟨e0,e1,e2,e3⟩:=kT r2;have h6:=jl r2 (.int .i64 1) (.int .i64 0) (.int .i64 0) (.bool false);obtain⟨w6,hw6⟩:=aC ((((w5.setCell ⟨B+2,0,none⟩ (.int .i64 1)).setCell ⟨B+2,1,none⟩ (.int .i64 0)).setCell ⟨B+2,2,none⟩ (.int .i64 0)).setCell ⟨B+2,3,none⟩ (.bool false));rw[←hw6] at h6;have OZ:=ah hw6;have HR2:Hid (w6.cell? ⟨B+2,0,none⟩=some (.int .i64 1)∧w6.cell? ⟨B+2,1,none⟩=some (.int .i64 0)∧w6.cell? ⟨B+2,2,none⟩=some (.int .i64 0)∧w6.cell? ⟨B+2,3,none⟩=some (.bool false)):=ah (rQ h6);have HR1:Hid (w6.cell? ⟨B+1,0,none⟩=some (.int .i64 (-1))∧w6.cell? ⟨B+1,1,none⟩=some (.int .i64 0)∧w6.cell? ⟨B+1,2,none⟩=some (.int .i64 0)∧w6.cell? ⟨B+1,3,none⟩=some (.bool false)):=ah (rQ h6.p1);have H6:=ah h6.forget.forget.forget.forget.forget;clear hwd hD r1 h5 hw5 r2 h6 hw6 H3;refine aG rfl (fun w'=>w'.cell? ⟨g2,0,none⟩=some (.int .i64 1)∧w'.cell? ⟨g2,1,none⟩=some (.int .i64 0)∧w'.cell? ⟨g2,2,none⟩=some (.int .i64 0)∧w'.cell? ⟨g2,3,none⟩=some (.bool false)) [(0,.t),(1,.s),(2,.e true),(3,.e false)] (by kernel_rfl) ?_;rw[←jY.out];refine bG ?_;clear a0 a1 a2 a3
    (refine jJ rfl rfl (fun K hK=>?_);go_simp)
    rw[←KX.out]
    (refine hK _ _ (fun _=>Ci.out) ?_;clear hK K;(try simp only[Act.put,lsA,lsB,lq]))
    clear hS0 b0 b1 b2 b3 c0 c1 c2 c3 KX jY
    (refine jJ rfl rfl (fun K hK=>?_);go_simp)
    rw[←OZ.out];refine dY ?_;clear hK K;refine dJ ?_;clear d0 d1 d2 d3 e0 e1 e2 e3 OZ Ci;obtain⟨d0,d1,d2,d3⟩:=HR2.out;obtain⟨e0,e1,e2,e3⟩:=HR1.out;go_wp2;exact bodyPost_ret (v:=.tuple #[.agg #[.int .i64 (-1),.int .i64 0,.int .i64 0,.bool false],.agg #[.int .i64 1,.int .i64 0,.int .i64 0,.bool false]]) (by simp[results,Tryz.results214,go_sem,d0,d1,d2,d3,e0,e1,e2,e3]) rfl ⟨rfl,H6.out⟩
structure KJ (x:Iv):Prop where
 lw:VB x.lw
 up:VB x.up
set_option maxRecDepth 100000 in
set_option maxHeartbeats 4000000 in
theorem Qk {W w:World} {A:aB} (x:Iv) (hB:KJ x) (h:Sat W w A):
 Calls Tryz.prog 213 #[.agg (Hw x)] w fun e w'=>e=.returned (.bool (ig x))∧Sat W w' A:=by
 obtain⟨rv,dQ⟩:=aC (ig x);have hlim:=Eb x;rw[←dQ] at hlim ⊢;have kY:Hid (∀w' A',Sat W w' A'→Calls Tryz.prog 214 #[.agg (Hw x)] w' fun e w''=>e=.returned (.tuple #[.agg (Et x).cs.toArray,.agg (Ef x).cs.toArray])∧Sat W w'' A'):=ah fun w' A' h'=>xW x h'
 have iL:Hid (wI x.lw x.lo x.li=true→wI x.up x.ho x.hi=true→∀w' A',Sat W w' A'→Calls Tryz.prog 215 #[.agg (Et x).cs.toArray,.agg (Ef x).cs.toArray] w' fun e w''=>e=.returned (.bool (Qe (Et x) (Ef x)))∧Sat W w'' A'):=ah fun e1 e2 w' A' h'=>Ez (Et x) (Ef x) (V8 e1 e2) h'
 obtain⟨lt,hlt⟩:=aC (Qe (Et x) (Ef x));rw[←hlt] at iL hlim;obtain⟨va,hva⟩:=aC ((Et x).cs.toArray);obtain⟨vb,hvb⟩:=aC ((Ef x).cs.toArray);rw[←hva,←hvb] at kY iL;have hl1:=fun w' (A':aB) (h':Sat W w' A')=>Ie x.ln x.ld x.lo x.li hB.lw h'
 have hl2:=fun w' (A':aB) (h':Sat W w' A')=>Ie x.hn x.hd x.ho x.hi hB.up h'
 obtain⟨ln,ld,hn,hd,lo,ho,li,hi⟩:=x;simp only[Iv.lw,Iv.up] at hlim iL hl1 hl2;unfold Hw at kY ⊢;simp only at kY ⊢;obtain⟨l1,e1⟩:=aC (wI ⟨ln,ld⟩ lo li);obtain⟨l2,e2⟩:=aC (wI ⟨hn,hd⟩ ho hi);rw[←e1] at hlim iL hl1;rw[←e2] at hlim iL hl2;have FQ:=ah hl1;have HL2:=ah hl2;have bU:=ah hlim;have h1:=h.alloc (.cells #[.int .i64 ln,.int .i64 ld,.int .i64 hn,.int .i64 hd,.bool lo,.bool ho,.bool li,.bool hi] 159);obtain⟨B,PV⟩:=aC (w.heap.size);obtain⟨w1,hw1⟩:=aC (w.alloc (.cells #[.int .i64 ln,.int .i64 ld,.int .i64 hn,.int .i64 hd,.bool lo,.bool ho,.bool li,.bool hi] 159));rw[←PV,←hw1] at h1;have U4:=ah (aH PV hw1);have H1:=ah h1;obtain⟨k0,k1,k2,k3,k4,k5,k6,k7⟩:=Nk h1;clear dQ hlt hva hvb hl1 hl2 e1 e2 hlim h h1 PV hw1 hB;cases l1 with
 | false=>
  go_enter Tryz.func213,Tryz.ntmps213;go_upto_region 1 with fail;rw[←U4.out.1,←U4.out.2];go_wp2_with fail;refine (FQ.out _ _ H1.out).mono ?_;rintro e w2 ⟨rfl,h2⟩;have H2:=ah h2.drop;clear h2 k0 k1 k2 k3 k4 k5 k6 k7;go_wp2;go_ret;exact⟨by rw[bU.out];rfl,H2.out⟩
 | true=>
  cases l2 with
  | false=>
   go_enter Tryz.func213,Tryz.ntmps213;go_upto_region 1 with fail;rw[←U4.out.1,←U4.out.2];go_wp2_with fail;refine (FQ.out _ _ H1.out).mono ?_;rintro e w2 ⟨rfl,h2⟩;clear k0 k1 k2 k3 k4 k5 k6 k7;obtain⟨k0,k1,k2,k3,k4,k5,k6,k7⟩:=Nk h2;have H2:=ah h2;clear h2;go_wp2_with fail;refine (HL2.out _ _ H2.out).mono ?_;rintro e w3 ⟨rfl,h3⟩;have H3:=ah h3.drop;clear h3 k0 k1 k2 k3 k4 k5 k6 k7;go_wp2;go_ret;exact⟨by rw[bU.out];rfl,H3.out⟩
  | true=>
   have aeU:=ah (iL.out rfl rfl);go_enter Tryz.func213,Tryz.ntmps213;go_upto_region 1 with fail;rw[←U4.out.1,←U4.out.2];go_wp2_with fail;refine (FQ.out _ _ H1.out).mono ?_;rintro e w2 ⟨rfl,h2⟩;clear k0 k1 k2 k3 k4 k5 k6 k7;obtain⟨k0,k1,k2,k3,k4,k5,k6,k7⟩:=Nk h2;have H2:=ah h2;clear h2;go_wp2_with fail;refine (HL2.out _ _ H2.out).mono ?_;rintro e w3 ⟨rfl,h3⟩;clear k0 k1 k2 k3 k4 k5 k6 k7;obtain⟨k0,k1,k2,k3,k4,k5,k6,k7⟩:=Nk h3;have H3:=ah h3;clear h3;go_wp2_with fail;refine (kY.out _ _ H3.out).mono ?_;rintro e w4 ⟨rfl,h4⟩;have H4:=ah h4.drop;clear h4 k0 k1 k2 k3 k4 k5 k6 k7;go_wp2_with fail;refine (aeU.out _ _ H4.out).mono ?_;rintro e w5 ⟨rfl,h5⟩;have H5:=ah h5;clear h5;go_wp2;go_ret;exact⟨by rw[bU.out];rfl,H5.out⟩
end Go.Proofs.YthfmaclnccdcbaaGreatDoor
namespace PA
open Go Go.RowKit
end PA
namespace Go.Proofs.YthfmaclnccdcbaaGreatDoor
open Go.RowKit PA
theorem Ui {W w:World} {A:aB} (a:Option Addr) (n c:Nat) (h:Sat W w A):
 Calls Tryz.prog 216 #[.slice a n c] w fun e w'=>e=.returned (.int .i64 (if 32<n then 4 else 0))∧Sat W w' A:=by
 by_cases h1:32<n
 ·have h2:(32:Int)<n:=by omega
  rw[if_pos h1];go_enter Tryz.func216,Tryz.ntmps216;go_wp2;go_ret;exact⟨rfl,h⟩
 ·have h2:¬(32:Int)<n:=by omega
  rw[if_neg h1];go_enter Tryz.func216,Tryz.ntmps216;go_wp2;go_ret;exact⟨rfl,h⟩
set_option maxRecDepth 100000 in
set_option maxHeartbeats 8000000 in
theorem Nu {W w:World} {A:aB} {I:Mem} (a:Option Addr) (c:Nat) (l:List Iv) (hv:(Yr.slice 8).rel I [.slice a l.length c] l) (hB:∀x∈l,KJ x) (h:Sat W w (sep (kn I) A)):
 Calls Tryz.prog 198 #[.slice a l.length c] w fun e w'=>e=.returned (.int .i64 (KO l))∧Sat W w' (sep (kn I) A):=by
 obtain⟨n,hn⟩:=aC (l.length);obtain⟨sv,hsv⟩:=aC (KO l);have hl63:=(aJ hv).2.2;rw[←hn] at hv hl63 ⊢;rw[←hsv];have KH:=ah (aH hsv hn);have HV:=ah hv;have HB:=ah hB;have H:=ah h;clear hv h hsv hn hB;go_enter Tryz.func198,Tryz.ntmps198;go_wp2;go_loopw [11] (fun iv wr=>∃i:Nat,iv=.int .i64 i∧i≤n∧Hid (BU l i=true)∧Sat W wr (sep (kn I) A)) (fun iv _=>n-(intOf iv).toNat)
 case atStart=>exact⟨0,rfl,by omega,ah (Ap l),H.out⟩
 case round=>
  obtain⟨i,rfl,hi,hsp,hS⟩:=hrel;clear H;by_cases hlt:i<n
  ·have hltz:(i:Int)<(n:Int):=by omega
   have hil:i<l.length:=by have:=KH.out.2;omega
   obtain⟨x,hx⟩:∃x,l[i]?=some x:=⟨_,iM hil⟩
   have hxm:x∈l:=mZ hx;obtain⟨b,o,rfl,hcell⟩:=vU HV.out hx;have HC:=ah hcell;obtain⟨k0,k1,k2,k3,k4,k5,k6,k7⟩:=hcell wr hS.ext;have HGD:Hid (∀w' A',Sat W w' A'→Calls Tryz.prog 213 #[.agg (Hw x)] w' fun e w''=>e=.returned (.bool (ig x))∧Sat W w'' A'):=ah fun w' A' h'=>Qk x (HB.out x hxm) h'
   have kY:Hid (∀w' A',Sat W w' A'→Calls Tryz.prog 214 #[.agg (Hw x)] w' fun e w''=>e=.returned (.tuple #[.agg (Et x).cs.toArray,.agg (Ef x).cs.toArray])∧Sat W w'' A'):=ah fun w' A' h'=>xW x h'
   obtain⟨g,hg⟩:=aC (ig x);rw[←hg] at HGD;have h2:=hS.alloc (.cells #[.int .i64 x.ln,.int .i64 x.ld,.int .i64 x.hn,.int .i64 x.hd,.bool x.lo,.bool x.ho,.bool x.li,.bool x.hi] 159);obtain⟨w2,hw2⟩:=aC (wr.alloc (.cells #[.int .i64 x.ln,.int .i64 x.ld,.int .i64 x.hn,.int .i64 x.hd,.bool x.lo,.bool x.ho,.bool x.li,.bool x.hi] 159));rw[←hw2] at h2;obtain⟨G,hG⟩:=aC (wr.heap.size);have HW2:=ah (aH hG hw2);rw[←hG] at h2;have H2:=ah h2;have HX:=ah (aH hx hg);have HI:=ah (aH hlt hil);clear hcell hS hx hg hlt hil hi hxm hw2 hG h2;go_upto_region 4 with fail;rw[←HW2.out.1,←HW2.out.2];clear k0 k1 k2 k3 k4 k5 k6 k7;obtain⟨k0,k1,k2,k3,k4,k5,k6,k7⟩:=Nk H2.out;unfold Hw at HGD;go_wp2_with fail;refine (HGD.out _ _ H2.out).mono ?_;rintro e w3 ⟨rfl,h3⟩;clear k0 k1 k2 k3 k4 k5 k6 k7;have H3:=ah h3;clear h3 H2 HW2 HGD;cases g with
   | false=>
    go_wp2;go_ret;refine⟨?_,H3.out.drop⟩;have hsa:tZ l i=false:=by
     cases hsa:tZ l i with
     | false=>rfl
     | true=>have:=wE HX.out.1 hsa;rw[←HX.out.2] at this;cases this
    have:sv=1:=by rw[KH.out.1];unfold KO;rw[if_pos (uY (by have:=HI.out.1;have:=KH.out.2;omega) hsa)]
    rw[this];rfl
   | true=>
    cases i with
    | zero=>
     go_wp2;go_roundw;case rel=>exact⟨1,by go_num,by have:=HI.out;omega,ah (by rw[rJ,hsp.out,Iz HX.out.1,←HX.out.2];rfl),H3.out.drop⟩
     case measure=>simp[intOf];have:=HI.out;omega
    | succ j=>
     as_aux_lemma=>
     obtain⟨y,hy⟩:∃y,l[j]?=some y:=⟨_,iM (by have:=HI.out.2;omega)⟩
     obtain⟨b',o',e',hcj⟩:=vU HV.out hy;cases e';have TT:ig y=true:=wE hy (SG (by omega) hsp.out);have aa1:Hid (∀w' A',Sat W w' A'→Calls Tryz.prog 214 #[.agg (Hw y)] w' fun e w''=>e=.returned (.tuple #[.agg (Et y).cs.toArray,.agg (Ef y).cs.toArray])∧Sat W w'' A'):=ah fun w' A' h'=>xW y h'
     have QW:Hid (∀w' A',Sat W w' A'→Calls Tryz.prog 215 #[.agg (Ef y).cs.toArray,.agg (Et x).cs.toArray] w' fun e w''=>e=.returned (.bool (Qe (Ef y) (Et x)))∧Sat W w'' A'):=ah fun w' A' h'=>Ez (Ef y) (Et x) (V7 TT HX.out.2.symm) h'
     obtain⟨ap,hap⟩:=aC (Qe (Ef y) (Et x));rw[←hap] at QW;have adt:tZ l (j+1)=ap:=by
      rw[Am HX.out.1 hy,←HX.out.2,hap,←O5 TT HX.out.2.symm];rfl
     obtain⟨⟨f1,n1,d1,b1⟩,he1⟩:∃z,z=Et x:=⟨_,rfl⟩
     obtain⟨⟨f2,n2,d2,b2⟩,he2⟩:∃z,z=Ef x:=⟨_,rfl⟩
     obtain⟨⟨f3,n3,d3,b3⟩,he3⟩:∃z,z=Et y:=⟨_,rfl⟩
     obtain⟨⟨f4,n4,d4,b4⟩,he4⟩:∃z,z=Ef y:=⟨_,rfl⟩
     rw[←he1,←he2] at kY;rw[←he3,←he4] at aa1;rw[←he1,←he4] at QW;have HAP:=ah adt;have hj0:(0:Int)<(j:Int)+1:=by omega
     have hjw:IntKind.i64.wrap ((j:Int)+1-1)=(j:Int):=by rw[show (j:Int)+1-1=(j:Int) by omega];exact IntWalk.i64_in _ (by have:=HI.out;omega)
     have hjn:(j:Int)<(n:Int):=by have:=HI.out;omega
     have HCJ:=ah hcj;clear hy hcj TT hap adt he1 he2 he3 he4;unfold Hw at kY aa1;obtain⟨k0,k1,k2,k3,k4,k5,k6,k7⟩:=Nk H3.out;go_upto_region 7 with fail;go_wp2_with fail;refine (kY.out _ _ H3.out).mono ?_;rintro e w4 ⟨rfl,h4⟩;clear k0 k1 k2 k3 k4 k5 k6 k7 H3;have h5:=(h4.alloc (.cells #[.int .i64 f1,.int .i64 n1,.int .i64 d1,.bool b1] 223)).alloc (.cells #[.int .i64 f2,.int .i64 n2,.int .i64 d2,.bool b2] 223);rw[World.size_alloc] at h5;obtain⟨E,hE⟩:=aC (w4.heap.size);obtain⟨w5,hw5⟩:=aC ((w4.alloc (.cells #[.int .i64 f1,.int .i64 n1,.int .i64 d1,.bool b1] 223)).alloc (.cells #[.int .i64 f2,.int .i64 n2,.int .i64 d2,.bool b2] 223));rw[←hE,←hw5] at h5;have KX:=ah (aH hE hw5);have H5:=ah h5;clear hE hw5 h5 h4;simp only[En.cs];go_upto_region 8 with fail;rw[←KX.out.1,←KX.out.2];obtain⟨j0,j1,j2,j3,j4,j5,j6,j7⟩:=HCJ.out w5 H5.out.p3.ext;go_wp2_with fail;refine (aa1.out _ _ H5.out).mono ?_;rintro e w6 ⟨rfl,h6⟩;clear j0 j1 j2 j3 j4 j5 j6 j7 H5 KX;have h7:=(h6.alloc (.cells #[.int .i64 f3,.int .i64 n3,.int .i64 d3,.bool b3] 223)).alloc (.cells #[.int .i64 f4,.int .i64 n4,.int .i64 d4,.bool b4] 223);rw[World.size_alloc] at h7;obtain⟨E2,hE2⟩:=aC (w6.heap.size);obtain⟨w7,hw7⟩:=aC ((w6.alloc (.cells #[.int .i64 f3,.int .i64 n3,.int .i64 d3,.bool b3] 223)).alloc (.cells #[.int .i64 f4,.int .i64 n4,.int .i64 d4,.bool b4] 223));rw[←hE2,←hw7] at h7;have HW7:=ah (aH hE2 hw7);have H7:=ah h7;clear hE2 hw7 h7 h6;simp only[En.cs];go_upto_region 9 with fail;rw[←HW7.out.1,←HW7.out.2];obtain⟨j0,j1,j2,j3⟩:=rQ H7.out;obtain⟨k0,k1,k2,k3⟩:=rQ H7.out.p3;unfold En.cs at QW;go_wp2_with fail;refine (QW.out _ _ H7.out).mono ?_;rintro e w8 ⟨rfl,h8⟩;have H8:=ah h8.forget.forget.forget.forget.forget;clear h8 H7 HW7 j0 j1 j2 j3 k0 k1 k2 k3;cases ap with
     | true=>
      go_wp2;go_roundw;case rel=>exact⟨j+2,by go_num,by have:=HI.out;omega,ah (by rw[rJ,hsp.out,HAP.out];rfl),H8.out⟩
      case measure=>simp[intOf];have:=HI.out;omega
     | false=>
      go_wp2;go_ret;refine⟨?_,H8.out⟩;have:sv=1:=by rw[KH.out.1];unfold KO;rw[if_pos (uY (by have:=HI.out.1;have:=KH.out.2;omega) HAP.out)]
      rw[this];rfl
  ·obtain rfl:i=n:=by omega
   have hfew:=Ui a i c hS;have hend:sv=if 32<i then 4 else 0:=by
    rw[KH.out.1];unfold KO;rw[←KH.out.2,if_neg (by rw[hsp.out];simp)]
   rw[←hend] at hfew;have aeO:=ah hfew;clear hS hlt hi hsp hend hfew;go_wp2_with fail;refine aeO.out.mono ?_;rintro e w2 ⟨rfl,h2⟩;go_wp2;go_ret;exact⟨rfl,h2⟩
set_option maxRecDepth 100000 in
set_option maxHeartbeats 4000000 in
theorem Jw {W w:World} {A:aB} {I:Mem} (f:Fm) (p q:Int) (x1:Option Addr) (n1 c1:Nat) (x2:Option Addr) (n2 c2:Nat) (hr:rF.rel I [.int .i64 p,.int .i64 q,.slice x1 n1 c1,.slice x2 n2 c2] f) (hIv:∀x∈f.ins,KJ x) (h:Sat W w (sep (kn I) A)):
 Calls Tryz.prog 163 #[.agg #[.int .i64 p,.int .i64 q,.slice x1 n1 c1,.slice x2 n2 c2]] w fun e w'=>e=.returned (.bool (f.formed rU))∧Sat W w' (sep (kn I) A):=by
 obtain⟨o,n,i,k⟩:=f;obtain⟨x1',c1',x2',c2',e,hi,hk⟩:=dW.1 hr;simp only[List.cons.injEq,Value.int.injEq,Value.slice.injEq,true_and,and_true] at e;obtain⟨rfl,rfl,⟨rfl,rfl,rfl⟩,⟨rfl,rfl,rfl⟩⟩:=e;have h1:=h.alloc (.cells #[.int .i64 p,.int .i64 q,.slice x1 i.length c1,.slice x2 k.length c2] 34);obtain⟨B,hB⟩:=aC (w.heap.size);obtain⟨w1,hw1⟩:=aC (w.alloc (.cells #[.int .i64 p,.int .i64 q,.slice x1 i.length c1,.slice x2 k.length c2] 34));rw[←hB,←hw1] at h1;obtain⟨k0,k1,k2,k3⟩:=lH h1;have HB:=ah (aH hB hw1);have H1:=ah h1;have IY:Hid (∀w' A',Sat W w' (sep (kn I) A')→Calls Tryz.prog 198 #[.slice x1 i.length c1] w' fun e w''=>e=.returned (.int .i64 (KO i))∧Sat W w'' (sep (kn I) A')):=ah fun w' A' h'=>Nu x1 c1 i hi hIv h'
 obtain⟨rv,dQ⟩:=aC ((Fm.mk p q i k).formed rU);rw[←dQ];obtain⟨nk,hnk⟩:=aC (k.length);obtain⟨ni,hni⟩:=aC (i.length);obtain⟨sv,hsv⟩:=aC (KO i);have jW:rv=if (p≠2∧ni≠0)∨(p≠2∧p≠1∧q≠0) then false
  else if p=0 then decide (nk=0)
  else if p=1 then decide (nk=0)&&decide (0≤q)&&decide (q<64)
  else if p=2 then decide (nk=0)&&decide (0≤q)&&decide (q<32)&&decide (sv=0)
  else if p=3∨p=6 then decide (nk=1)
  else decide (p=4)||decide (p=5):=by
  have e1:(i≠[])↔ni≠0:=by rw[hni];cases i<;>simp
  have e2:k.isEmpty=decide (nk=0):=by rw[hnk];cases k<;>simp
  rw[dQ,Fm.formed,e2];unfold rU;rw[←hsv,←hnk];simp only[e1]
 have bU:=ah jW;rw[←hsv] at IY;rw[←hnk] at k3 H1 ⊢;rw[←hni] at k2 H1 IY ⊢;simp only[←hni,←hnk] at HB;have uP:=(aJ hk).2.2;have WA:=(aJ hi).2.2;rw[←hnk] at uP;rw[←hni] at WA;clear hIv hr h hi hk h1 hB hw1 dQ jW hnk hni hsv;by_cases o2:p=2
 ·subst o2
  by_cases z0:nk=0
  ·subst z0
   by_cases z1:q<0
   ·as_aux_lemma=>
    go_enter Tryz.func163,Tryz.ntmps163;go_upto_region 1 with fail;rw[←HB.out.1,←HB.out.2];go_wp2;go_ret;exact⟨by rw[bU.out];simp;omega,H1.out.drop⟩
   ·by_cases z2:q<32
    ·as_aux_lemma=>
     have z1':0≤q:=by omega
     clear z1;go_enter Tryz.func163,Tryz.ntmps163;go_upto_region 1 with fail;rw[←HB.out.1,←HB.out.2];go_wp2_with fail;refine (IY.out _ _ H1.out.p1).mono ?_;rintro e w2 ⟨rfl,h2⟩;have H2:=ah h2.p1.drop;clear h2 IY k0 k1 k2 k3;go_wp2;go_ret;exact⟨by rw[bU.out];(simp[z1',z2]);(try rfl),H2.out⟩
    ·as_aux_lemma=>
     have z1':0≤q:=by omega
     have z2':32≤q:=by omega
     clear z1 z2;go_enter Tryz.func163,Tryz.ntmps163;go_upto_region 1 with fail;rw[←HB.out.1,←HB.out.2];go_wp2;go_ret;exact⟨by rw[bU.out];simp;omega,H1.out.drop⟩
  ·as_aux_lemma=>
   have z0':((nk:Int)==0)=false:=by simp;omega
   go_enter Tryz.func163,Tryz.ntmps163;go_upto_region 1 with fail;rw[←HB.out.1,←HB.out.2];go_wp2;go_ret;exact⟨by rw[bU.out];simp[z0],H1.out.drop⟩
 ·by_cases n0:ni=0
  ·subst n0
   by_cases o1:p=1
   ·subst o1
    by_cases z0:nk=0
    ·subst z0
     by_cases z1:q<0
     ·as_aux_lemma=>
      go_enter Tryz.func163,Tryz.ntmps163;go_upto_region 1 with fail;rw[←HB.out.1,←HB.out.2];go_wp2;go_ret;exact⟨by rw[bU.out];simp;omega,H1.out.drop⟩
     ·by_cases z2:q<64
      ·as_aux_lemma=>
       have z1':0≤q:=by omega
       clear z1;go_enter Tryz.func163,Tryz.ntmps163;go_upto_region 1 with fail;rw[←HB.out.1,←HB.out.2];go_wp2;go_ret;exact⟨by rw[bU.out];simp[z1',z2],H1.out.drop⟩
      ·as_aux_lemma=>
       have z1':0≤q:=by omega
       have z2':64≤q:=by omega
       clear z1 z2;go_enter Tryz.func163,Tryz.ntmps163;go_upto_region 1 with fail;rw[←HB.out.1,←HB.out.2];go_wp2;go_ret;exact⟨by rw[bU.out];simp;omega,H1.out.drop⟩
    ·as_aux_lemma=>
     have z0':((nk:Int)==0)=false:=by simp;omega
     go_enter Tryz.func163,Tryz.ntmps163;go_upto_region 1 with fail;rw[←HB.out.1,←HB.out.2];go_wp2;go_ret;exact⟨by rw[bU.out];simp[z0],H1.out.drop⟩
   ·by_cases q0:q=0
    ·subst q0
     by_cases p0:p=0
     ·as_aux_lemma=>
      subst p0;go_enter Tryz.func163,Tryz.ntmps163;go_upto_region 1 with fail;rw[←HB.out.1,←HB.out.2];go_wp2;go_ret;exact⟨by rw[bU.out];(try simp);(first|done|exact Tn _|exact Tq _),H1.out.drop⟩
     ·by_cases p3:p=3
      ·as_aux_lemma=>
       subst p3;go_enter Tryz.func163,Tryz.ntmps163;go_upto_region 1 with fail;rw[←HB.out.1,←HB.out.2];go_wp2;go_ret;exact⟨by rw[bU.out];(try simp);(first|done|exact Tn _|exact Tq _),H1.out.drop⟩
      ·by_cases p6:p=6
       ·as_aux_lemma=>
        subst p6;go_enter Tryz.func163,Tryz.ntmps163;go_upto_region 1 with fail;rw[←HB.out.1,←HB.out.2];go_wp2;go_ret;exact⟨by rw[bU.out];(try simp);(first|done|exact Tn _|exact Tq _),H1.out.drop⟩
       ·by_cases p4:p=4
        ·as_aux_lemma=>
         subst p4;go_enter Tryz.func163,Tryz.ntmps163;go_upto_region 1 with fail;rw[←HB.out.1,←HB.out.2];go_wp2;go_ret;exact⟨by rw[bU.out];simp,H1.out.drop⟩
        ·by_cases p5:p=5
         ·as_aux_lemma=>
          subst p5;go_enter Tryz.func163,Tryz.ntmps163;go_upto_region 1 with fail;rw[←HB.out.1,←HB.out.2];go_wp2;go_ret;exact⟨by rw[bU.out];simp,H1.out.drop⟩
         ·as_aux_lemma=>
          go_enter Tryz.func163,Tryz.ntmps163;go_upto_region 1 with fail;rw[←HB.out.1,←HB.out.2];go_wp2;go_ret;exact⟨by rw[bU.out];simp[o2,o1,p0,p3,p6,p4,p5],H1.out.drop⟩
    ·as_aux_lemma=>
     have q0':(p !=2&&p !=1&&q !=0)=true:=by simp[o2,o1,q0]
     have q1':(p !=2)=true:=by simpa using o2
     have q2':(p !=1)=true:=by simpa using o1
     have q3':(q !=0)=true:=by simpa using q0
     go_enter Tryz.func163,Tryz.ntmps163;go_upto_region 1 with fail;rw[←HB.out.1,←HB.out.2];go_wp2;go_ret;exact⟨by rw[bU.out];simp[o2,o1,q0],H1.out.drop⟩
  ·as_aux_lemma=>
   have n0':(0:Int)<(ni:Int):=by omega
   go_enter Tryz.func163,Tryz.ntmps163;go_upto_region 1 with fail;rw[←HB.out.1,←HB.out.2];go_wp2;go_ret;exact⟨by rw[bU.out];simp[o2,n0],H1.out.drop⟩
end Go.Proofs.YthfmaclnccdcbaaGreatDoor

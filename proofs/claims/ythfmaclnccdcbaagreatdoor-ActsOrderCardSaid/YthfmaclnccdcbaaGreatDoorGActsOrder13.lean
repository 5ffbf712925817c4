/- Part of a proof. -/
import Derived.Test.YthfmaclnccdcbaaGreatDoorGActsOrder11
import Derived.Test.YthfmaclnccdcbaaGreatDoorGActsOrder14
namespace Go.Proofs.YthfmaclnccdcbaaGreatDoor
open Go.RowKit PA
set_option maxRecDepth 100000 in
set_option maxHeartbeats 4000000 in
theorem Ot {W w:World} {A:aC} {I:Mem} (a:Option Addr) (c:Nat) (l:List Int) (i:Nat) (hv:(qX.slice 1).rel I [.slice a l.length c] l) (h:Sat W w (sep (kn I) A)):
 Calls Tryz.prog 156 #[.slice a l.length c,.int .i64 (i:Nat)] w fun e w'=>e=.returned (.bool (jS l i))∧Sat W w' (sep (kn I) A):=by
 obtain⟨n,hn⟩:=aB (l.length);obtain⟨rv,dK⟩:=aB (jS l i);have hl63:=(aI hv).2.2;rw[←hn] at hv hl63 ⊢;rw[←dK];have bM:=ah (And.intro dK hn);have HV:=ah hv;have H:=ah h;clear hv h dK hn
 go_enter Tryz.func156,Tryz.ntmps156
 go_wp2_with fail
 go_loopw [5,10] (fun lv kv wr=>∃(k:Nat) (z:Int),lv=.int .i64 z∧kv=.int .i64 k∧k≤n∧Hid (rW l i k=true∧(k=0→z=-1)∧(∀j,k=j+1→l[j]?=some z))∧Sat W wr (sep (kn I) A)) (fun _ kv _=>n-(intOf kv).toNat)
 case atStart=>exact⟨0,-1,rfl,rfl,by omega,ah ⟨wS l i,fun _=>rfl,fun j hj=>by omega⟩,H.out⟩
 case round=>
  obtain⟨k,z,rfl,rfl,hk,HT,hS⟩:=hrel;clear H
  by_cases hlt:k<n
  ·have hltz:(k:Int)<(n:Int):=by omega
   obtain⟨r,hr⟩:∃r,l[k]?=some r:=⟨_,List.getElem?_eq_getElem (by have:=bM.out.2;omega)⟩
   obtain⟨b,o,rfl,hcell⟩:=nO HV.out hr;have j0:=hcell wr hS.ext;have hat:oU l i k=(!(decide (r≤z)||decide ((i:Int)≤r))):=by
    cases k with
    | zero=>
     have hz:z=-1:=HT.out.2.1 rfl;rw[P8 hr,hz];rw[Bool.eq_iff_iff];simp;omega
    | succ k=>
     have hz:=HT.out.2.2 k rfl;rw[IJ hr hz];have hb:0≤z:=by
      have h1:=HT.out.1;rw[nY] at h1;simp only[Bool.and_eq_true] at h1;have h2:=h1.2;unfold oU at h2;rw[hz] at h2;simp only[Bool.and_eq_true,decide_eq_true_eq] at h2;exact h2.1
     rw[Bool.eq_iff_iff];simp;omega
   have HAT:=ah (And.intro hat (And.intro hr hlt));have HS:=ah hS;clear hat hr hcell hlt hk hS
   by_cases h1:r≤z
   ·have hF:rv=false:=by
     rw[bM.out.1];unfold jS;rw[←bM.out.2];exact y9 HAT.out.2.2 (by rw[HAT.out.1,decide_eq_true h1];rfl)
    have HF:=ah hF;clear hF
    go_wp2
    go_ret
    exact⟨by rw[HF.out];try rfl,HS.out⟩
   ·by_cases h2:(i:Int)≤r
    ·have hF:rv=false:=by
      rw[bM.out.1];unfold jS;rw[←bM.out.2];exact y9 HAT.out.2.2 (by rw[HAT.out.1,decide_eq_true h2];simp)
     have HF:=ah hF;clear hF
     go_wp2
     go_ret
     exact⟨by rw[HF.out];try rfl,HS.out⟩
    ·have HN:Hid (rW l i (k+1)=true):=ah (by rw[nY,HT.out.1,HAT.out.1,decide_eq_false h1,decide_eq_false h2];rfl)
     go_wp2
     go_roundw
     case rel=>exact⟨k+1,r,rfl,by go_num,by have:=HAT.out.2.2;omega,ah ⟨HN.out,fun e=>by omega,fun j hj=>(by have e:j=k:=(by omega);rw[e];exact HAT.out.2.1)⟩,HS.out⟩
     case measure=>simp[intOf];have:=HAT.out.2.2;omega
  ·obtain rfl:k=n:=by omega
   have HF:Hid (rv=true):=ah (by rw[bM.out.1];unfold jS;rw[←bM.out.2];exact HT.out.1);have HS:=ah hS;clear hS hlt hk HT
   go_wp2
   go_ret
   exact⟨by rw[HF.out];try rfl,HS.out⟩
set_option maxRecDepth 100000 in
set_option maxHeartbeats 4000000 in
theorem Oo {W:World} {I:Mem} (f:Fm):∀(w:World) (A:aC) (p q:Int) (x1:Option Addr) (n1 c1:Nat) (x2:Option Addr) (n2 c2:Nat),rF.rel I [.int .i64 p,.int .i64 q,.slice x1 n1 c1,.slice x2 n2 c2] f→f.size≤mg→Sat W w (sep (kn I) A) →
 Calls Tryz.prog 162 #[.agg #[.int .i64 p,.int .i64 q,.slice x1 n1 c1,.slice x2 n2 c2]] w fun e w'=>e=.returned (.int .i64 (f.deep:Nat))∧Sat W w' (sep (kn I) A):=by
 refine Fm.ind (P:=fun f=>∀(w:World) (A:aC) (p q:Int) (x1:Option Addr) (n1 c1:Nat) (x2:Option Addr) (n2 c2:Nat),rF.rel I [.int .i64 p,.int .i64 q,.slice x1 n1 c1,.slice x2 n2 c2] f→f.size≤mg→Sat W w (sep (kn I) A) →
  Calls Tryz.prog 162 #[.agg #[.int .i64 p,.int .i64 q,.slice x1 n1 c1,.slice x2 n2 c2]] w fun e w'=>e=.returned (.int .i64 (f.deep:Nat))∧Sat W w' (sep (kn I) A)) (fun o n i k ih=>?_) f
 intro w A p q x1 n1 c1 x2 n2 c2 hr hsz h;obtain⟨x1',c1',x2',c2',e,hi,hk⟩:=dR.1 hr;simp only[List.cons.injEq,Value.int.injEq,Value.slice.injEq,true_and,and_true] at e;obtain⟨rfl,rfl,⟨rfl,rfl,rfl⟩,⟨rfl,rfl,rfl⟩⟩:=e;have h1:=h.alloc (.cells #[.int .i64 p,.int .i64 q,.slice x1 i.length c1,.slice x2 k.length c2] 34);obtain⟨B,hB⟩:=aB (w.heap.size);obtain⟨w1,hw1⟩:=aB (w.alloc (.cells #[.int .i64 p,.int .i64 q,.slice x1 i.length c1,.slice x2 k.length c2] 34));rw[←hB,←hw1] at h1;have HB:=ah (And.intro hB hw1);have H1:=ah h1.drop;obtain⟨-,-,-,k3⟩:=kR h1;obtain⟨nk,hnk⟩:=aB (k.length);obtain⟨ni,hni⟩:=aB (i.length);obtain⟨sz,hs⟩:=aB (Fm.sizes k);have hszz:(Fm.mk p q i k).size=sz+1:=by rw[hs,Fm.size]
 obtain⟨dk,hdk⟩:=aB (Fm.dG k);have hdd:(Fm.mk p q i k).deep=dk+1:=by rw[hdk,Fm.deep]
 have hdl:=Fm.JG k;have tX:=(aI hk).2.2;rw[hszz] at hsz;rw[hdd];have HIH:=ah ih;rw[←hnk] at hk tX k3 ⊢;rw[←hni] at ⊢;simp only[←hni,←hnk] at HB;have HK:=ah hk;have HN:=ah (And.intro hnk (And.intro hs hdk));have hdz:(dk:Int)≤1000000:=by unfold mg at hsz;omega
 have J9:sz≤1000000:=by unfold mg at hsz;omega
 have Je:=ah J9;clear hr hsz h hi hk h1 hB hw1 hnk hni hs hszz ih J9 hdk hdd hdl
 go_enter Tryz.func162,Tryz.ntmps162
 go_upto_region 1 with (fail)
 rw[←HB.out.1,←HB.out.2]
 go_wp2_with fail
 go_loopw [3,9] (fun sv iv wr=>∃(j s:Nat),sv=.int .i64 s∧iv=.int .i64 j∧j≤nk∧s≤dk∧Hid (s=Fm.dG (k.take j))∧Sat W wr (sep (kn I) A)) (fun _ iv _=>nk-(intOf iv).toNat)
 case atStart=>exact⟨0,0,rfl,rfl,by omega,by omega,ah (by simp[Fm.dG]),H1.out⟩
 case round=>
  obtain⟨j,s,rfl,rfl,hj,hsl,HS,hS⟩:=hrel;clear k3
  by_cases hlt:j<nk
  ·have hltz:(j:Int)<(nk:Int):=by omega
   obtain⟨g,hg⟩:∃g,k[j]?=some g:=⟨_,List.getElem?_eq_getElem (by have:=HN.out.1;omega)⟩
   obtain⟨b,o,p',q',y1,m1,d1,y2,m2,d2,rfl,hgr,hcell⟩:=gV HK.out hg;have hmem:g∈k:=List.mem_of_getElem? hg;obtain⟨j0,j1,j2,j3⟩:=hcell wr hS.ext;obtain⟨sg,hsg⟩:=aB (g.deep);have hgs:=Fm.kW hmem;have htk:=Fm.BZ k j hg;have htl:Fm.dG (k.take (j+1))≤dk:=by
    rw[HN.out.2.2];have key:∀(l:List Fm) (i:Nat),Fm.dG (l.take i)≤Fm.dG l:=by
     intro l
     induction l with
     | nil=>intro i;simp
     | cons g l ih=>
      intro i;cases i with
      | zero=>simp[Fm.dG]
      | succ i=>rw[List.take_succ_cons,Fm.dG,Fm.dG];have:=ih i;omega
    exact key _ _
   obtain⟨mx,hmx⟩:=aB (max s sg);have hb:mx≤dk:=by rw[hmx,HS.out,hsg,←htk];exact htl
   have emx:(if s<sg then (sg:Int) else (s:Int))=(mx:Int):=by split<;>omega
   have HMX:=ah emx;have hAl:=hS.alloc (.cells #[.int .i64 p',.int .i64 q',.slice y1 m1 d1,.slice y2 m2 d2] 34);obtain⟨M,hM⟩:=aB (wr.heap.size);obtain⟨w2,hw2⟩:=aB (wr.alloc (.cells #[.int .i64 p',.int .i64 q',.slice y1 m1 d1,.slice y2 m2 d2] 34));rw[←hM,←hw2] at hAl;obtain⟨t0,t1,t2,t3⟩:=kR hAl;have GY:=ah (And.intro hM hw2);have hrec:=HIH.out g hmem w2 A p' q' y1 m1 d1 y2 m2 d2 hgr (by have:=Je.out;have:=HN.out.2.1;unfold mg;omega) hAl.drop;rw[←hsg] at hrec;have HR:=ah hrec;have HT:Hid (mx=Fm.dG (k.take (j+1))):=ah (by rw[htk,hmx,HS.out,hsg]);have uF:=ah (And.intro hb hlt);clear hgr hcell hmem hsg hgs htk htl hrec hg hS hb hlt hj hsl H1 hmx emx hAl hM hw2
   go_upto_region 5 with (fail)
   rw[←GY.out.1,←GY.out.2]
   go_wp2_with fail
   refine HR.out.mono ?_;rintro e w3 ⟨rfl,h2⟩;have H2:=ah h2;clear h2 HR j0 j1 j2 j3 t0 t1 t2 t3
   go_wp2
   go_roundw
   case rel=>exact⟨j+1,mx,congrArg (Value.int .i64) HMX.out,by go_num,by have:=uF.out;omega,uF.out.1,HT,H2.out⟩
   case measure=>simp[intOf];have:=uF.out;omega
  ·obtain rfl:j=nk:=by omega
   have hss:s=dk:=by rw[HS.out,HN.out.2.2,List.take_of_length_le (by have:=HN.out.1;omega)]
   have Zb:=ah hss;have HF:=ah hS;clear hS hss H1
   go_wp2
   go_ret
   exact⟨by rw[Zb.out];simp,HF.out⟩
end Go.Proofs.YthfmaclnccdcbaaGreatDoor
namespace PA
open Go Go.RowKit
structure En where
 far:Int
 n:Int
 d:Int
 af:Bool
def En.cs (e:En):List Value:=[.int .i64 e.far,.int .i64 e.n,.int .i64 e.d,.bool e.af]
def Dq (x:Iv):En:=if x.li=true then ⟨-1,0,0,false⟩ else ⟨0,x.ln,x.ld,x.lo⟩
def C9 (x:Iv):En:=if x.hi=true then ⟨1,0,0,false⟩ else ⟨0,x.hn,x.hd,!x.ho⟩
def N9 (a b:En):Bool:=if a.far=b.far then (if a.far=0 then (if a.n*b.d=b.n*a.d then (!a.af&&b.af) else decide (a.n*b.d<b.n*a.d)) else false) else decide (a.far<b.far)
def vH (r:Rt) (o i:Bool):Bool:=if i=true then zR r&&!o else eU r
theorem JF {a b:Rt} (ha:okR a=true) (hb:okR b=true):(a.n*b.d=b.n*a.d)↔Yr a b=true:=by
 obtain⟨an,ad⟩:=a;obtain⟨bn,bd⟩:=b;obtain⟨a1,-,-,-,ag⟩:=(Iq an ad).1 ha;obtain⟨b1,-,-,-,bg⟩:=(Iq bn bd).1 hb;unfold Yr;simp only[Bool.and_eq_true,beq_iff_eq];constructor
 ·intro h
  have hn:=congrArg Int.natAbs h;rw[Int.natAbs_mul,Int.natAbs_mul] at hn;have h1:ad.natAbs ∣ bd.natAbs:=by
   refine Nat.Coprime.dvd_of_dvd_mul_left (k:=ad.natAbs) (n:=bd.natAbs) (m:=an.natAbs) (by rw[Nat.Coprime,Nat.gcd_comm];exact ag) ?_;rw[hn];exact Nat.dvd_mul_left _ _
  have h2:bd.natAbs ∣ ad.natAbs:=by
   refine Nat.Coprime.dvd_of_dvd_mul_left (k:=bd.natAbs) (n:=ad.natAbs) (m:=bn.natAbs) (by rw[Nat.Coprime,Nat.gcd_comm];exact bg) ?_;rw[←hn];exact Nat.dvd_mul_left _ _
  have h3:ad.natAbs=bd.natAbs:=Nat.dvd_antisymm h1 h2;have h4:ad=bd:=by omega
  subst h4;exact⟨Int.eq_of_mul_eq_mul_right (by omega) h,rfl⟩
 ·rintro⟨rfl,rfl⟩;rfl
theorem rG {r:Rt} (h:eU r=true):okR r=true:=by
 unfold eU at h;simp only[Bool.and_eq_true] at h;exact h.1
theorem CQ (x:Iv):gX x=(vH x.lw x.lo x.li&&(vH x.up x.ho x.hi&&N9 (Dq x) (C9 x))):=by
 obtain⟨ln,ld,hn,hd,lo,ho,li,hi⟩:=x;unfold gX vH Dq C9 Iv.lw Iv.up;simp only;cases li with
 | true=>
  cases hi with
  | true=>cases zR ⟨ln,ld⟩<;>cases zR ⟨hn,hd⟩<;>cases lo<;>cases ho<;>simp[N9]
  | false=>cases zR ⟨ln,ld⟩<;>cases eU ⟨hn,hd⟩<;>cases lo<;>cases ho<;>simp[N9]
 | false=>
  cases hi with
  | true=>cases eU ⟨ln,ld⟩<;>cases zR ⟨hn,hd⟩<;>cases lo<;>cases ho<;>simp[N9]
  | false=>
   cases h1:eU ⟨ln,ld⟩ with
   | false=>simp
   | true=>
    cases h2:eU ⟨hn,hd⟩ with
    | false=>simp
    | true=>
     have hc:=JF (rG h1) (rG h2);simp only at hc;unfold N9 Ob;simp only[Bool.false_and,Bool.or_false,Bool.not_false,Bool.not_true,Bool.and_false,Bool.false_eq_true,if_false,Bool.true_and,if_true]
     by_cases e:ln*hd=hn*ld
     ·rw[if_pos e,if_pos (hc.1 e)]
     ·rw[if_neg e,if_neg (fun h=>e (hc.2 h))]
theorem uP {x:Iv} (h:gX x=true):vH x.lw x.lo x.li=true∧vH x.up x.ho x.hi=true:=by
 rw[CQ] at h;simp only[Bool.and_eq_true] at h;exact⟨h.1,h.2.1⟩
theorem MX {x y:Iv} (hx:gX x=true) (hy:gX y=true):qI x y=N9 (C9 x) (Dq y):=by
 have h1:=(uP hx).2;have h2:=(uP hy).1;clear hx hy;obtain⟨ln,ld,hn,hd,lo,ho,li,hi⟩:=x;obtain⟨Us,ld',hn',hd',lo',ho',VA,hi'⟩:=y;unfold vH Iv.lw Iv.up at *;simp only at h1 h2;unfold qI Dq C9 Iv.lw Iv.up;simp only;cases hi with
 | true=>cases VA<;>simp[N9]
 | false=>
  cases VA with
  | true=>simp[N9]
  | false=>
   simp only[Bool.false_eq_true,if_false] at h1 h2;have hc:=JF (rG h1) (rG h2);simp only at hc;unfold N9 Ob;simp only[Bool.or_self,Bool.false_eq_true,if_false,if_true,Bool.not_not]
   by_cases e:hn*ld'=Us*hd
   ·rw[if_pos e,if_pos (hc.1 e)]
   ·rw[if_neg e,if_neg (fun h=>e (hc.2 h))]
def OY (a b:En):Prop:=a.far=b.far→a.far=0→(-9223372036854775808≤a.n*b.d∧a.n*b.d≤9223372036854775807)∧-9223372036854775808≤b.n*a.d∧b.n*a.d≤9223372036854775807
theorem qF {W w:World} {A:aC} {g:Nat} {a b c d:Value} {t:TypeId} (h:Sat W w (sep (blk g (.cells #[a,b,c,d] t (0,0))) A)):
 w.cell? ⟨g,0,none⟩=some a∧w.cell? ⟨g,1,none⟩=some b∧w.cell? ⟨g,2,none⟩=some c∧w.cell? ⟨g,3,none⟩=some d:=⟨h.cell 0,h.cell 1,h.cell 2,h.cell 3⟩
theorem ku {W w:World} {A:aC} {g:Nat} {a b c d:Value} {t:TypeId} (h:Sat W w (sep (blk g (.cells #[a,b,c,d] t (0,0))) A)):
 w.frozen? ⟨g,0,none⟩=false∧w.frozen? ⟨g,1,none⟩=false∧w.frozen? ⟨g,2,none⟩=false∧w.frozen? ⟨g,3,none⟩=false:=⟨h.aH 0,h.aH 1,h.aH 2,h.aH 3⟩
theorem iU {W w:World} {A:aC} {g:Nat} {a b c d:Value} {t:TypeId} (h:Sat W w (sep (blk g (.cells #[a,b,c,d] t (0,0))) A)) (p q r s:Value):
 Sat W ((((w.setCell ⟨g,0,none⟩ p).setCell ⟨g,1,none⟩ q).setCell ⟨g,2,none⟩ r).setCell ⟨g,3,none⟩ s) (sep (blk g (.cells #[p,q,r,s] t (0,0))) A):=
 (((h.setCell 0 p).setCell 1 q).setCell 2 r).setCell 3 s
end PA
namespace Go.Proofs.YthfmaclnccdcbaaGreatDoor
open Go.RowKit PA
theorem AU {a b:Rt} (ha:eU a=true) (hb:eU b=true):-9223372036854775808≤a.n*b.d∧a.n*b.d≤9223372036854775807:=by
 have h1:=mY ha;have h2:=mY hb;have:=Io h1.n1 h1.n2 (by have:=h2.d1;omega) h2.d2;omega
theorem TL {x y:Iv} (hx:gX x=true) (hy:gX y=true):OY (C9 x) (Dq y):=by
 have h1:=(uP hx).2;have h2:=(uP hy).1;unfold vH at h1 h2;intro e1 e2;unfold C9 Dq at *;cases hh:x.hi with
 | true=>rw[hh] at e2;simp at e2
 | false=>
  cases hl:y.li with
  | true=>rw[hh,hl] at e1;simp at e1
  | false=>
   rw[hh] at h1;rw[hl] at h2;simp only[Bool.false_eq_true,if_false] at h1 h2 ⊢;exact⟨AU h1 h2,AU h2 h1⟩
theorem TM {x:Iv} (h1:vH x.lw x.lo x.li=true) (h2:vH x.up x.ho x.hi=true):OY (Dq x) (C9 x):=by
 unfold vH at h1 h2;intro e1 e2;unfold C9 Dq at *;cases hh:x.li with
 | true=>rw[hh] at e2;simp at e2
 | false=>
  cases hl:x.hi with
  | true=>rw[hh,hl] at e1;simp at e1
  | false=>
   rw[hh] at h1;rw[hl] at h2;simp only[Bool.false_eq_true,if_false] at h1 h2 ⊢;exact⟨AU h1 h2,AU h2 h1⟩
set_option maxRecDepth 100000 in
set_option maxHeartbeats 4000000 in
theorem Dw {W w:World} {A:aC} (a b:En) (hf:OY a b) (h:Sat W w A):
 Calls Tryz.prog 215 #[.agg a.cs.toArray,.agg b.cs.toArray] w fun e w'=>e=.returned (.bool (N9 a b))∧Sat W w' A:=by
 obtain⟨af,an,ad,aa⟩:=a;obtain⟨bf,bn,bd,ba⟩:=b;unfold OY at hf;simp only at hf;obtain⟨p,hp⟩:=aB (an*bd);obtain⟨q,hq⟩:=aB (bn*ad);have hr:N9 ⟨af,an,ad,aa⟩ ⟨bf,bn,bd,ba⟩=if af=bf then (if af=0 then (if p=q then (!aa&&ba) else decide (p<q)) else false) else decide (af<bf):=by rw[hp,hq];rfl
 rw[←hp,←hq] at hf;have e1:an*bd=p:=hp.symm;have e2:bn*ad=q:=hq.symm;rw[hr];have h1:=(h.alloc (.cells #[.int .i64 af,.int .i64 an,.int .i64 ad,.bool aa] 223)).alloc (.cells #[.int .i64 bf,.int .i64 bn,.int .i64 bd,.bool ba] 223);rw[World.size_alloc] at h1;obtain⟨B,hB⟩:=aB (w.heap.size);obtain⟨w1,hw1⟩:=aB ((w.alloc (.cells #[.int .i64 af,.int .i64 an,.int .i64 ad,.bool aa] 223)).alloc (.cells #[.int .i64 bf,.int .i64 bn,.int .i64 bd,.bool ba] 223));rw[←hB,←hw1] at h1;have HB:=ah (And.intro hB hw1);have H1:=ah h1;obtain⟨k0,k1,k2,k3⟩:=qF h1;obtain⟨j0,j1,j2,j3⟩:=qF h1.p1;obtain⟨rv,dK⟩:=aB (if af=bf then (if af=0 then (if p=q then (!aa&&ba) else decide (p<q)) else false) else decide (af<bf));rw[←dK];have bM:=ah dK;clear h h1 hp hq hr dK hB hw1;unfold En.cs
 by_cases c1:af=bf
 ·subst c1
  by_cases c2:af=0
  ·subst c2
   obtain⟨⟨m1,m2⟩,m3,m4⟩:=hf rfl rfl;clear hf
   go_enter Tryz.func215,Tryz.ntmps215
   go_upto_region 1 with (fail)
   rw[←HB.out.1,←HB.out.2]
   go_upto_region 5 with (fail)
   have hd:=H1.out.drew;obtain⟨wd,hwd⟩:=aB (w1.drew);rw[←hwd] at hd;have HD:=ah hd;have oD:=ah hwd;clear k0 k1 k2 k3 j0 j1 j2 j3 hwd;obtain⟨k0,k1,k2,k3⟩:=qF hd;obtain⟨j0,j1,j2,j3⟩:=qF hd.p1;clear hd;refine aG rfl (fun _=>True) [(0,.p),(1,.p),(2,.t),(3,.p),(4,.p),(5,.t),(6,.p),(7,.p),(8,.p),(9,.t),(10,.p),(11,.p),(12,.t),(13,.p),(14,.p),(15,.p)] (by kernel_rfl) ?_;rw[←oD.out];have hS0:True:=trivial;refine bF ?_;refine dN ?_;have hwp:IntKind.i64.wrap p=p:=IntWalk.i64_in _ (by omega);have hwq:IntKind.i64.wrap q=q:=IntWalk.i64_in _ (by omega);simp only[hwp,hwq];clear e1 e2 m1 m2 m3 m4 hwp hwq
   by_cases c3:p=q
   ·have HF:Hid (rv=(!aa&&ba)):=ah (by rw[bM.out,if_pos rfl,if_pos rfl,if_pos c3])
    have c3b:(p !=q)=false:=by simp[c3]
    clear bM c3;cases aa
    all_goals
     go_wp2
     go_ret
     exact⟨by rw[HF.out];try rfl,HD.out.drop.drop⟩
   ·have HF:Hid (rv=decide (p<q)):=ah (by rw[bM.out,if_pos rfl,if_pos rfl,if_neg c3])
    have c3b:(p !=q)=true:=by simp[c3]
    clear bM c3
    go_wp2
    go_ret
    exact⟨by rw[HF.out];try rfl,HD.out.drop.drop⟩
  ·have HF:Hid (rv=false):=ah (by rw[bM.out,if_pos rfl,if_neg c2])
   have c2b:(af !=0)=true:=by simp[c2]
   clear bM hf e1 e2
   go_enter Tryz.func215,Tryz.ntmps215
   go_upto_region 1 with (fail)
   rw[←HB.out.1,←HB.out.2]
   go_wp2
   go_ret
   exact⟨by rw[HF.out];try rfl,H1.out.drop.drop⟩
 ·have HF:Hid (rv=decide (af<bf)):=ah (by rw[bM.out,if_neg c1])
  have c1b:(af !=bf)=true:=by simp[c1]
  clear bM hf e1 e2
  go_enter Tryz.func215,Tryz.ntmps215
  go_upto_region 1 with (fail)
  rw[←HB.out.1,←HB.out.2]
  go_wp2
  go_ret
  exact⟨by rw[HF.out];try rfl,H1.out.drop.drop⟩
set_option maxHeartbeats 1000000 in
theorem KJ {W w:World} {A:aC} (n d:Int) (hB:SV ⟨n,d⟩) (h:Sat W w A):
 Calls Tryz.prog 227 #[.agg #[.int .i64 n,.int .i64 d]] w fun e w'=>e=.returned (.bool (eU ⟨n,d⟩))∧Sat W w' A:=by
 have h1:=h.alloc (.cells #[.int .i64 n,.int .i64 d] 26);obtain⟨B,Zk⟩:=aB (w.heap.size);obtain⟨w1,hw1⟩:=aB (w.alloc (.cells #[.int .i64 n,.int .i64 d] 26));rw[←Zk,←hw1] at h1;obtain⟨k0,k1,-,-⟩:=kG h1;have HB:=ah (And.intro Zk hw1);have HV:=ah (uy ⟨n,d⟩ hB.n1 hB.n2 hB.d1 hB.d2 h1);obtain⟨o,ho⟩:=aB (okR ⟨n,d⟩);rw[←ho] at HV;have hr:eU ⟨n,d⟩=(o&&(decide (n≤1073741824)&&(decide (-1073741824≤n)&&decide (d≤32768)))):=by unfold eU;rw[ho]
 rw[hr];clear hr ho h h1 Zk hw1 hB;obtain⟨v,hv⟩:=aB ((o&&(decide (n≤1073741824)&&(decide (-1073741824≤n)&&decide (d≤32768)))));rw[←hv];have HVV:=ah hv;clear hv;cases o with
 | false=>
  go_enter Tryz.func227,Tryz.ntmps227
  go_upto_region 1 with (fail)
  rw[←HB.out.1,←HB.out.2]
  go_wp2_with fail
  refine HV.out.mono ?_;rintro e w2 ⟨rfl,h2⟩;have H2:=ah h2;clear h2 HV k0 k1
  go_wp2
  go_ret
  exact⟨by rw[HVV.out];rfl,H2.out.drop⟩
 | true=>
  have HD:Hid ((if true=true then (0:Int) else 1)=0):=ah rfl;rcases (show n < -1073741824∨-1073741824≤n by omega) with c1|c1
  ·
   go_enter Tryz.func227,Tryz.ntmps227
   go_upto_region 1 with (fail)
   rw[←HB.out.1,←HB.out.2]
   go_wp2_with fail
   refine HV.out.mono ?_;rintro e w2 ⟨rfl,h2⟩;obtain⟨k0,k1,-,-⟩:=kG h2;have H2:=ah h2;clear h2 HV;rw[HD.out]
   go_wp2
   go_ret
   exact⟨by rw[HVV.out,decide_eq_false (show ¬-1073741824≤n by omega)];simp,H2.out.drop⟩
  ·rcases (show 1073741824<n∨n≤1073741824 by omega) with c2|c2
   ·
    go_enter Tryz.func227,Tryz.ntmps227
    go_upto_region 1 with (fail)
    rw[←HB.out.1,←HB.out.2]
    go_wp2_with fail
    refine HV.out.mono ?_;rintro e w2 ⟨rfl,h2⟩;obtain⟨k0,k1,-,-⟩:=kG h2;have H2:=ah h2;clear h2 HV;rw[HD.out]
    go_wp2
    go_ret
    exact⟨by rw[HVV.out,decide_eq_false (show ¬n≤1073741824 by omega)];simp,H2.out.drop⟩
   ·
    go_enter Tryz.func227,Tryz.ntmps227
    go_upto_region 1 with (fail)
    rw[←HB.out.1,←HB.out.2]
    go_wp2_with fail
    refine HV.out.mono ?_;rintro e w2 ⟨rfl,h2⟩;obtain⟨k0,k1,-,-⟩:=kG h2;have H2:=ah h2;clear h2 HV;rw[HD.out]
    go_wp2
    go_ret
    exact⟨by rw[HVV.out,decide_eq_true c1,decide_eq_true c2];simp,H2.out.drop⟩
set_option maxRecDepth 100000 in
set_option maxHeartbeats 1000000 in
theorem F6 {W w:World} {A:aC} (n d:Int) (o i:Bool) (hB:SV ⟨n,d⟩) (h:Sat W w A):
 Calls Tryz.prog 226 #[.agg #[.int .i64 n,.int .i64 d],.bool o,.bool i] w fun e w'=>e=.returned (.bool (vH ⟨n,d⟩ o i))∧Sat W w' A:=by
 have h1:=h.gQ (.cells #[.int .i64 n,.int .i64 d] 26);obtain⟨w1,hw1⟩:=aB (w.alloc (.cells #[.int .i64 n,.int .i64 d] 26));obtain⟨rv,dK⟩:=aB (vH ⟨n,d⟩ o i);have HS:=ah (KJ n d hB h1);have H1:=ah h1;rw[←dK];have bM:=ah dK;have hn1:∀w0,(binOp .eql 26 (.agg #[.int .i64 n,.int .i64 d]) (.agg #[.int .i64 0,.int .i64 0])).run Tryz.prog w0=.ok (.bool (n==0&&d==0)) w0:=fun w0=>IL w0 n d 0 0
 clear dK hB h h1 hw1;cases i with
 | false=>
  go_enter Tryz.func226,Tryz.ntmps226
  go_wp2_with fail
  refine HS.out.mono ?_;rintro e w2 ⟨rfl,h2⟩;have H2:=ah h2;clear h2 HS
  go_wp2
  go_ret
  exact⟨by rw[bM.out];rfl,H2.out⟩
 | true=>
  obtain⟨z,hz⟩:=aB ((n==0&&d==0));rw[←hz] at hn1;have HZ:Hid (rv=(z&&!o)):=ah (by rw[bM.out,hz];rfl);clear hz bM HS;cases z
  all_goals
   go_enter Tryz.func226,Tryz.ntmps226
   go_wp2
   go_ret
   exact⟨by rw[HZ.out];rfl,H1.out⟩
end Go.Proofs.YthfmaclnccdcbaaGreatDoor
namespace PA
open Go Go.RowKit
def TG:Nat→List Nat:=fun x=>if x=13 then [11] else if x=14 then [12] else []
def Ae (E i j:Nat) (cs:List Value) (f:Nat→Option Value):aC:=
 match f i with
 | none=>emp
 | some v=>ex fun g:Nat=>sep (fact (v=.pointer (some ⟨g,0,none⟩))) (blk g (.cells (match f j with|none=>#[.int .i64 0,.int .i64 0,.int .i64 0,.bool false]|some _=>cs.toArray) E (0,0)))
theorem pY {E i j:Nat} {cs:List Value} {f:Nat→Option Value} (h:f i=none):Ae E i j cs f=emp:=by unfold Ae;rw[h]
theorem xH {E i j:Nat} {cs:List Value} {f:Nat→Option Value} {v:Value} {y:Nat} (h1:i≠y) (h2:j≠y):Ae E i j cs (fG f y v)=Ae E i j cs f:=by unfold Ae;rw[aK h1,aK h2]
theorem tu {W w:World} {E i j:Nat} {cs:List Value} {f:Nat→Option Value} {v:Value} {R:aC} (h:f i=some v) (h2:f j=none):Sat W w (sep (Ae E i j cs f) R)↔∃g,v=.pointer (some ⟨g,0,none⟩)∧Sat W w (sep (blk g (.cells #[.int .i64 0,.int .i64 0,.int .i64 0,.bool false] E (0,0))) R):=by
 unfold Ae;rw[h,h2];simp only;rw[fK,Sat.ex];constructor
 ·rintro⟨g,h⟩;rw[aj] at h;exact⟨g,Sat.fact.1 h⟩
 ·rintro⟨g,h⟩;exact⟨g,by rw[aj];exact Sat.fact.2 h⟩
theorem pX {W w:World} {E i j:Nat} {cs:List Value} {f:Nat→Option Value} {v u:Value} {R:aC} (h:f i=some v) (h2:f j=some u):Sat W w (sep (Ae E i j cs f) R)↔∃g,v=.pointer (some ⟨g,0,none⟩)∧Sat W w (sep (blk g (.cells cs.toArray E (0,0))) R):=by
 unfold Ae;rw[h,h2];simp only;rw[fK,Sat.ex];constructor
 ·rintro⟨g,h⟩;rw[aj] at h;exact⟨g,Sat.fact.1 h⟩
 ·rintro⟨g,h⟩;exact⟨g,by rw[aj];exact Sat.fact.2 h⟩
theorem FP {W w:World} {E i j:Nat} {cs:List Value} {f:Nat→Option Value} {R:aC} (h:Sat W w (sep (Ae E i j cs f) R)):Sat W w R:=by
 cases hi:f i with
 | none=>rw[pY hi,iM] at h;exact h
 | some v=>
  cases hj:f j with
  | none=>obtain⟨g,-,h1⟩:=(tu hi hj).1 h;exact h1.drop
  | some u=>obtain⟨g,-,h1⟩:=(pX hi hj).1 h;exact h1.drop
def zM (E:Nat) (lo hi:List Value) (X:aC) (f:Nat→Option Value):aC:=sep (Ae E 11 13 lo f) (sep (Ae E 12 14 hi f) X)
end PA
namespace Go.Proofs.YthfmaclnccdcbaaGreatDoor
open Go.RowKit PA
set_option maxRecDepth 100000 in
set_option maxHeartbeats 4000000 in
theorem wM {W w:World} {A:aC} (x:Iv) (h:Sat W w A):
 Calls Tryz.prog 214 #[.agg (FW x)] w fun e w'=>e=.returned (.tuple #[.agg (Dq x).cs.toArray,.agg (C9 x).cs.toArray])∧Sat W w' A:=by
 obtain⟨ln,ld,hn,hd,lo,ho,li,hi⟩:=x;have h1:=((h.alloc (.cells #[.int .i64 ln,.int .i64 ld,.int .i64 hn,.int .i64 hd,.bool lo,.bool ho,.bool li,.bool hi] 159)).alloc (.cells #[.int .i64 0,.int .i64 0,.int .i64 0,.bool false] 223)).alloc (.cells #[.int .i64 0,.int .i64 0,.int .i64 0,.bool false] 223);simp only[World.size_alloc] at h1;obtain⟨B,hB⟩:=aB (w.heap.size);obtain⟨w1,hw1⟩:=aB (((w.alloc (.cells #[.int .i64 ln,.int .i64 ld,.int .i64 hn,.int .i64 hd,.bool lo,.bool ho,.bool li,.bool hi] 159)).alloc (.cells #[.int .i64 0,.int .i64 0,.int .i64 0,.bool false] 223)).alloc (.cells #[.int .i64 0,.int .i64 0,.int .i64 0,.bool false] 223));rw[←hB,←hw1] at h1;have HB:=ah (And.intro hB hw1);obtain⟨X,hX⟩:=aB (sep (blk (B+2) (.cells #[.int .i64 0,.int .i64 0,.int .i64 0,.bool false] 223 (0,0))) (sep (blk (B+1) (.cells #[.int .i64 0,.int .i64 0,.int .i64 0,.bool false] 223 (0,0))) (sep (blk B (.cells #[.int .i64 ln,.int .i64 ld,.int .i64 hn,.int .i64 hd,.bool lo,.bool ho,.bool li,.bool hi] 159 (0,0))) A)));have hd1:Sat W w1.drew X:=by rw[hX];exact h1.drew
 obtain⟨wd,hwd⟩:=aB (w1.drew);rw[←hwd] at hd1;have oD:=ah hwd;have HX:=ah hX;have HT0:Hid (Sat W wd (zM 223 [.int .i64 0,.int .i64 ln,.int .i64 ld,.bool lo] [.int .i64 0,.int .i64 hn,.int .i64 hd,.bool !ho] X (fun _=>none))):=ah (by
  unfold zM;rw[pY rfl,pY rfl,iM,iM];exact hd1)
 have xu:Hid (∀w',Sat W w' X→w'.cell? ⟨B,0,none⟩=some (.int .i64 ln)∧w'.cell? ⟨B,1,none⟩=some (.int .i64 ld)∧w'.cell? ⟨B,2,none⟩=some (.int .i64 hn)∧w'.cell? ⟨B,3,none⟩=some (.int .i64 hd)∧w'.cell? ⟨B,4,none⟩=some (.bool lo)∧w'.cell? ⟨B,5,none⟩=some (.bool ho)):=ah fun w' h'=>by
  rw[HX.out] at h';have h2:=KE h'.p2;exact⟨h2.1,h2.2.1,h2.2.2.1,h2.2.2.2.1,h2.2.2.2.2.1,h2.2.2.2.2.2.1⟩
 have Xz:Hid (∀w' Y,Sat W w' (sep X Y)→w'.cell? ⟨B,6,none⟩=some (.bool li)∧w'.cell? ⟨B,7,none⟩=some (.bool hi)):=ah fun w' Y h'=>by
  rw[HX.out] at h';simp only[aj] at h';have h2:=KE h'.p2;exact⟨h2.2.2.2.2.2.2.1,h2.2.2.2.2.2.2.2⟩
 have hS0:=xu.out wd hd1;clear h h1 hB hw1 hd1 hwd hX;unfold FW
 go_enter Tryz.func214,Tryz.ntmps214
 go_upto_region 1 with (fail)
 rw[←HB.out.1,←HB.out.2]
 go_cut [4,5] from 6 to 17 (fun u v wx=>∃g1 g2:Nat,u=.pointer (some ⟨g1,0,none⟩)∧v=.pointer (some ⟨g2,0,none⟩)∧Sat W wx (sep (blk g1 (.cells #[.int .i64 0,.int .i64 ln,.int .i64 ld,.bool lo] 223 (0,0))) (sep (blk g2 (.cells #[.int .i64 0,.int .i64 hn,.int .i64 hd,.bool !ho] 223 (0,0))) X)))
 case first=>
  as_aux_lemma=>
  refine eY rfl (fun w'=>w'.cell? ⟨B,0,none⟩=some (.int .i64 ln)∧w'.cell? ⟨B,1,none⟩=some (.int .i64 ld)∧w'.cell? ⟨B,2,none⟩=some (.int .i64 hn)∧w'.cell? ⟨B,3,none⟩=some (.int .i64 hd)∧w'.cell? ⟨B,4,none⟩=some (.bool lo)∧w'.cell? ⟨B,5,none⟩=some (.bool ho)) [.one 0 .p,.one 1 .s,.one 2 .p,.one 3 .s,.one 4 .p,.one 5 .p,.one 6 .s,.one 7 .p,.one 8 .s,.one 9 .p,.one 10 .p,.grp true [(11,[]),(12,[]),(13,[]),(14,[])]] (by kernel_rfl) ?_;rw[←oD.out];refine lG ?_;refine Bj (n:=4) rfl ?_;clear hS0;refine jT [11,12,13,14] TG (zM 223 [.int .i64 0,.int .i64 ln,.int .i64 ld,.bool lo] [.int .i64 0,.int .i64 hn,.int .i64 hd,.bool !ho] X) (by kernel_rfl) (by kernel_rfl) ?_ ?_ ?_ 4 [11,12,13,14] (fun _=>none) wd rfl (by decide) (fun z=>by simp) (fun _ _ h=>by cases h) HT0.out
  ·intro _ f w' hT
   exact xu.out w' (FP (FP hT))
  ·intro y hy f w' o' ho Ie fE hcl hT
   simp only[List.mem_cons,List.not_mem_nil,or_false] at hy;rcases hy with rfl|rfl|rfl|rfl
   ·as_aux_lemma=>
    cases ho;have h13:f 13=none:=by
     cases h10:f 13 with
     | none=>rfl
     | some v=>have:=hcl 13 (by decide) (by rw[h10];rfl) 11 (by decide);rw[Ie] at this;cases this
    unfold zM at hT ⊢;rw[pY Ie,iM] at hT;refine .inl (.inl ⟨.pointer (some ⟨w'.heap.size,0,none⟩),w'.alloc (.cells #[.int .i64 0,.int .i64 0,.int .i64 0,.bool false] 223),?_,?_⟩)
    ·(go_simp;try rfl)
    ·show Sat W _ (sep _ (sep _ _))
     rw[tu dw (by rw[aK (by decide)];exact h13),xH (by decide) (by decide)];exact⟨_,rfl,hT.alloc _⟩
   ·as_aux_lemma=>
    cases ho;have CZ:f 14=none:=by
     cases h10:f 14 with
     | none=>rfl
     | some v=>have:=hcl 14 (by decide) (by rw[h10];rfl) 12 (by decide);rw[Ie] at this;cases this
    unfold zM at hT ⊢;rw[pY Ie,iM] at hT;refine .inl (.inl ⟨.pointer (some ⟨w'.heap.size,0,none⟩),w'.alloc (.cells #[.int .i64 0,.int .i64 0,.int .i64 0,.bool false] 223),?_,?_⟩)
    ·(go_simp;try rfl)
    ·show Sat W _ (sep _ (sep _ _))
     rw[ay,tu dw (by rw[aK (by decide)];exact CZ),xH (by decide) (by decide)];exact⟨_,rfl,hT.alloc _⟩
   ·as_aux_lemma=>
    cases ho;obtain⟨v11,xJ⟩:=bV (fE 11 (by decide));unfold zM at hT ⊢;obtain⟨g,rfl,h2⟩:=(tu xJ Ie).1 hT;obtain⟨k0,k1,k2,k3⟩:=qF h2;obtain⟨u0,u1,u2,u3⟩:=ku h2;refine .inr ⟨(((w'.setCell ⟨g,0,none⟩ (.int .i64 0)).setCell ⟨g,1,none⟩ (.int .i64 ln)).setCell ⟨g,2,none⟩ (.int .i64 ld)).setCell ⟨g,3,none⟩ (.bool lo),?_,?_⟩
    ·simp[cZ,List.filter,TG,xJ,aS,Act.put]
     (go_simp;try rfl)
    ·show Sat W _ (sep _ (sep _ _))
     rw[pX (by rw[aK (by decide)];exact xJ) dw,xH (by decide) (by decide)];exact⟨g,rfl,iU h2 _ _ _ _⟩
   ·as_aux_lemma=>
    cases ho;obtain⟨v12,lC⟩:=bV (fE 12 (by decide));unfold zM at hT ⊢;rw[ay] at hT;obtain⟨g,rfl,h2⟩:=(tu lC Ie).1 hT;obtain⟨k0,k1,k2,k3⟩:=qF h2;obtain⟨u0,u1,u2,u3⟩:=ku h2;refine .inr ⟨(((w'.setCell ⟨g,0,none⟩ (.int .i64 0)).setCell ⟨g,1,none⟩ (.int .i64 hn)).setCell ⟨g,2,none⟩ (.int .i64 hd)).setCell ⟨g,3,none⟩ (.bool !ho),?_,?_⟩
    ·simp[cZ,List.filter,TG,lC,aS,Act.put]
     (go_simp;try rfl)
    ·show Sat W _ (sep _ (sep _ _))
     rw[ay,pX (by rw[aK (by decide)];exact lC) dw,xH (by decide) (by decide)];exact⟨g,rfl,iU h2 _ _ _ _⟩
  ·as_aux_lemma=>
   intro f w' hall hT;obtain⟨v11,xJ⟩:=bV (hall 11 (by decide));obtain⟨v12,lC⟩:=bV (hall 12 (by decide));obtain⟨v13,Ko⟩:=bV (hall 13 (by decide));obtain⟨v14,NV⟩:=bV (hall 14 (by decide));unfold zM at hT;obtain⟨g1,rfl,h2⟩:=(pX xJ Ko).1 hT;rw[ay] at h2;obtain⟨g2,rfl,h3⟩:=(pX lC NV).1 h2;rw[ay] at h3;have H3:=ah h3;simp only[cZ,List.foldl,xJ,lC,Ko,NV,aS];clear h3 h2 hT hall xJ lC Ko NV;simp only[Act.put,CU,CX,CY,Option.bind_some,lsA,lsB,kJ];refine vI ?_
   go_wp2
   go_meet
   case rel=>exact⟨g1,g2,rfl,rfl,H3.out⟩
 case rest=>
  obtain⟨g1,g2,rfl,rfl,hS⟩:=hcut;clear HT0 xu hS0 HB oD;cases li with
  | false=>
   cases hi with
   | false=>
    as_aux_lemma=>
    have cl:=(Xz.out wc _ (show Sat W wc (sep X (sep (blk g1 (.cells #[.int .i64 0,.int .i64 ln,.int .i64 ld,.bool lo] 223 (0,0))) (blk g2 (.cells #[.int .i64 0,.int .i64 hn,.int .i64 hd,.bool (!ho)] 223 (0,0))))) by simpa only[aA,ay,aj] using hS)).1;have H2:=ah hS.p1;clear hS
    go_upto_region 4 with (fail)
    clear cl;have ch:=(Xz.out wc _ (show Sat W wc (sep X (sep (blk g1 (.cells #[.int .i64 0,.int .i64 ln,.int .i64 ld,.bool lo] 223 (0,0))) (blk g2 (.cells #[.int .i64 0,.int .i64 hn,.int .i64 hd,.bool (!ho)] 223 (0,0))))) by simpa only[aA,ay,aj] using H2.out)).2;have H3:=ah H2.out.p1;clear H2
    go_upto_region 6 with (fail)
    clear ch;have hD:=H3.out.drew;obtain⟨wd,hwd⟩:=aB (wc.drew);rw[←hwd] at hD;have oD:=ah hwd;obtain⟨a0,a1,a2,a3⟩:=qF hD;have hS0:wd.cell? ⟨g2,0,none⟩=some (.int .i64 0)∧wd.cell? ⟨g2,1,none⟩=some (.int .i64 hn)∧wd.cell? ⟨g2,2,none⟩=some (.int .i64 hd)∧wd.cell? ⟨g2,3,none⟩=some (.bool (!ho)):=qF hD.p1;rw[HX.out] at hD;have r1:=hD.p3;obtain⟨b0,b1,b2,b3⟩:=qF r1;obtain⟨c0,c1,c2,c3⟩:=ku r1;have h5:=iU r1 (.int .i64 0) (.int .i64 ln) (.int .i64 ld) (.bool lo);obtain⟨w5,hw5⟩:=aB ((((wd.setCell ⟨B+1,0,none⟩ (.int .i64 0)).setCell ⟨B+1,1,none⟩ (.int .i64 ln)).setCell ⟨B+1,2,none⟩ (.int .i64 ld)).setCell ⟨B+1,3,none⟩ (.bool lo));rw[←hw5] at h5;have EJ:=ah hw5;have Jc:Hid (w5.cell? ⟨g2,0,none⟩=some (.int .i64 0)∧w5.cell? ⟨g2,1,none⟩=some (.int .i64 hn)∧w5.cell? ⟨g2,2,none⟩=some (.int .i64 hd)∧w5.cell? ⟨g2,3,none⟩=some (.bool (!ho))):=ah (qF h5.p2);have r2:=h5.p3;obtain⟨d0,d1,d2,d3⟩:=qF r2;obtain⟨e0,e1,e2,e3⟩:=ku r2;have h6:=iU r2 (.int .i64 0) (.int .i64 hn) (.int .i64 hd) (.bool (!ho));obtain⟨w6,hw6⟩:=aB ((((w5.setCell ⟨B+2,0,none⟩ (.int .i64 0)).setCell ⟨B+2,1,none⟩ (.int .i64 hn)).setCell ⟨B+2,2,none⟩ (.int .i64 hd)).setCell ⟨B+2,3,none⟩ (.bool (!ho)));rw[←hw6] at h6;have MQ:=ah hw6;have HR2:Hid (w6.cell? ⟨B+2,0,none⟩=some (.int .i64 0)∧w6.cell? ⟨B+2,1,none⟩=some (.int .i64 hn)∧w6.cell? ⟨B+2,2,none⟩=some (.int .i64 hd)∧w6.cell? ⟨B+2,3,none⟩=some (.bool (!ho))):=ah (qF h6);have HR1:Hid (w6.cell? ⟨B+1,0,none⟩=some (.int .i64 0)∧w6.cell? ⟨B+1,1,none⟩=some (.int .i64 ln)∧w6.cell? ⟨B+1,2,none⟩=some (.int .i64 ld)∧w6.cell? ⟨B+1,3,none⟩=some (.bool lo)):=ah (qF h6.p1);have H6:=ah h6.forget.forget.forget.forget.forget;clear hwd hD r1 h5 hw5 r2 h6 hw6 H3;refine aG rfl (fun w'=>w'.cell? ⟨g2,0,none⟩=some (.int .i64 0)∧w'.cell? ⟨g2,1,none⟩=some (.int .i64 hn)∧w'.cell? ⟨g2,2,none⟩=some (.int .i64 hd)∧w'.cell? ⟨g2,3,none⟩=some (.bool (!ho))) [(0,.t),(1,.s),(2,.e true),(3,.e false)] (by kernel_rfl) ?_;rw[←oD.out];refine bF ?_;clear a0 a1 a2 a3
    (refine jH rfl rfl (fun K hK=>?_);go_simp)
    rw[←EJ.out]
    (refine hK _ _ (fun _=>Jc.out) ?_;clear hK K;(try simp only[Act.put,lsA,lsB,kJ]))
    clear hS0 b0 b1 b2 b3 c0 c1 c2 c3 EJ oD
    (refine jH rfl rfl (fun K hK=>?_);go_simp)
    rw[←MQ.out];refine dQ ?_;clear hK K;refine dN ?_;clear d0 d1 d2 d3 e0 e1 e2 e3 MQ Jc;obtain⟨d0,d1,d2,d3⟩:=HR2.out;obtain⟨e0,e1,e2,e3⟩:=HR1.out
    go_wp2
    exact bodyPost_ret (v:=.tuple #[.agg #[.int .i64 0,.int .i64 ln,.int .i64 ld,.bool lo],.agg #[.int .i64 0,.int .i64 hn,.int .i64 hd,.bool (!ho)]]) (by simp[results,Tryz.results214,go_sem,d0,d1,d2,d3,e0,e1,e2,e3]) rfl ⟨rfl,H6.out⟩
   | true=>
    as_aux_lemma=>
    have cl:=(Xz.out wc _ (show Sat W wc (sep X (sep (blk g1 (.cells #[.int .i64 0,.int .i64 ln,.int .i64 ld,.bool lo] 223 (0,0))) (blk g2 (.cells #[.int .i64 0,.int .i64 hn,.int .i64 hd,.bool (!ho)] 223 (0,0))))) by simpa only[aA,ay,aj] using hS)).1;have H2:=ah hS.p1;clear hS
    go_upto_region 4 with (fail)
    clear cl;have ch:=(Xz.out wc _ (show Sat W wc (sep X (sep (blk g1 (.cells #[.int .i64 0,.int .i64 ln,.int .i64 ld,.bool lo] 223 (0,0))) (blk g2 (.cells #[.int .i64 0,.int .i64 hn,.int .i64 hd,.bool (!ho)] 223 (0,0))))) by simpa only[aA,ay,aj] using H2.out)).2;obtain⟨k0,k1,k2,k3⟩:=qF H2.out;obtain⟨u0,u1,u2,u3⟩:=ku H2.out;have h3:=iU H2.out (.int .i64 1) (.int .i64 0) (.int .i64 0) (.bool false);obtain⟨w3,hw3⟩:=aB ((((wc.setCell ⟨g2,0,none⟩ (.int .i64 1)).setCell ⟨g2,1,none⟩ (.int .i64 0)).setCell ⟨g2,2,none⟩ (.int .i64 0)).setCell ⟨g2,3,none⟩ (.bool false));rw[←hw3] at h3;have HW3:=ah hw3;have H3:=ah h3.p1;clear hw3 h3 H2
    go_upto_region 6 with (fail)
    rw[←HW3.out];clear k0 k1 k2 k3 u0 u1 u2 u3 HW3 ch;have hD:=H3.out.drew;obtain⟨wd,hwd⟩:=aB (w3.drew);rw[←hwd] at hD;have oD:=ah hwd;obtain⟨a0,a1,a2,a3⟩:=qF hD;have hS0:wd.cell? ⟨g2,0,none⟩=some (.int .i64 1)∧wd.cell? ⟨g2,1,none⟩=some (.int .i64 0)∧wd.cell? ⟨g2,2,none⟩=some (.int .i64 0)∧wd.cell? ⟨g2,3,none⟩=some (.bool false):=qF hD.p1;rw[HX.out] at hD;have r1:=hD.p3;obtain⟨b0,b1,b2,b3⟩:=qF r1;obtain⟨c0,c1,c2,c3⟩:=ku r1;have h5:=iU r1 (.int .i64 0) (.int .i64 ln) (.int .i64 ld) (.bool lo);obtain⟨w5,hw5⟩:=aB ((((wd.setCell ⟨B+1,0,none⟩ (.int .i64 0)).setCell ⟨B+1,1,none⟩ (.int .i64 ln)).setCell ⟨B+1,2,none⟩ (.int .i64 ld)).setCell ⟨B+1,3,none⟩ (.bool lo));rw[←hw5] at h5;have EJ:=ah hw5;have Jc:Hid (w5.cell? ⟨g2,0,none⟩=some (.int .i64 1)∧w5.cell? ⟨g2,1,none⟩=some (.int .i64 0)∧w5.cell? ⟨g2,2,none⟩=some (.int .i64 0)∧w5.cell? ⟨g2,3,none⟩=some (.bool false)):=ah (qF h5.p2);have r2:=h5.p3;obtain⟨d0,d1,d2,d3⟩:=qF r2;obtain⟨e0,e1,e2,e3⟩:=ku r2;have h6:=iU r2 (.int .i64 1) (.int .i64 0) (.int .i64 0) (.bool false);obtain⟨w6,hw6⟩:=aB ((((w5.setCell ⟨B+2,0,none⟩ (.int .i64 1)).setCell ⟨B+2,1,none⟩ (.int .i64 0)).setCell ⟨B+2,2,none⟩ (.int .i64 0)).setCell ⟨B+2,3,none⟩ (.bool false));rw[←hw6] at h6;have MQ:=ah hw6;have HR2:Hid (w6.cell? ⟨B+2,0,none⟩=some (.int .i64 1)∧w6.cell? ⟨B+2,1,none⟩=some (.int .i64 0)∧w6.cell? ⟨B+2,2,none⟩=some (.int .i64 0)∧w6.cell? ⟨B+2,3,none⟩=some (.bool false)):=ah (qF h6);have HR1:Hid (w6.cell? ⟨B+1,0,none⟩=some (.int .i64 0)∧w6.cell? ⟨B+1,1,none⟩=some (.int .i64 ln)∧w6.cell? ⟨B+1,2,none⟩=some (.int .i64 ld)∧w6.cell? ⟨B+1,3,none⟩=some (.bool lo)):=ah (qF h6.p1);have H6:=ah h6.forget.forget.forget.forget.forget;clear hwd hD r1 h5 hw5 r2 h6 hw6 H3;refine aG rfl (fun w'=>w'.cell? ⟨g2,0,none⟩=some (.int .i64 1)∧w'.cell? ⟨g2,1,none⟩=some (.int .i64 0)∧w'.cell? ⟨g2,2,none⟩=some (.int .i64 0)∧w'.cell? ⟨g2,3,none⟩=some (.bool false)) [(0,.t),(1,.s),(2,.e true),(3,.e false)] (by kernel_rfl) ?_;rw[←oD.out]
    refine bF ?_;clear a0 a1 a2 a3
    (refine jH rfl rfl (fun K hK=>?_);go_simp)
    rw[←EJ.out]
    (refine hK _ _ (fun _=>Jc.out) ?_;clear hK K;(try simp only[Act.put,lsA,lsB,kJ]))
    clear hS0 b0 b1 b2 b3 c0 c1 c2 c3 EJ oD
    (refine jH rfl rfl (fun K hK=>?_);go_simp)
    rw[←MQ.out];refine dQ ?_;clear hK K;refine dN ?_;clear d0 d1 d2 d3 e0 e1 e2 e3 MQ Jc;obtain⟨d0,d1,d2,d3⟩:=HR2.out;obtain⟨e0,e1,e2,e3⟩:=HR1.out
    go_wp2
    exact bodyPost_ret (v:=.tuple #[.agg #[.int .i64 0,.int .i64 ln,.int .i64 ld,.bool lo],.agg #[.int .i64 1,.int .i64 0,.int .i64 0,.bool false]]) (by simp[results,Tryz.results214,go_sem,d0,d1,d2,d3,e0,e1,e2,e3]) rfl ⟨rfl,H6.out⟩
  | true=>
   cases hi with
   | false=>
    as_aux_lemma=>
    have cl:=(Xz.out wc _ (show Sat W wc (sep X (sep (blk g1 (.cells #[.int .i64 0,.int .i64 ln,.int .i64 ld,.bool lo] 223 (0,0))) (blk g2 (.cells #[.int .i64 0,.int .i64 hn,.int .i64 hd,.bool (!ho)] 223 (0,0))))) by simpa only[aA,ay,aj] using hS)).1;obtain⟨k0,k1,k2,k3⟩:=qF hS;obtain⟨u0,u1,u2,u3⟩:=ku hS;have h2:=iU hS (.int .i64 (-1)) (.int .i64 0) (.int .i64 0) (.bool false);obtain⟨w2,hw2⟩:=aB ((((wc.setCell ⟨g1,0,none⟩ (.int .i64 (-1))).setCell ⟨g1,1,none⟩ (.int .i64 0)).setCell ⟨g1,2,none⟩ (.int .i64 0)).setCell ⟨g1,3,none⟩ (.bool false));rw[←hw2] at h2;have HW2:=ah hw2;have H2:=ah h2.p1;clear hw2 h2 hS
    go_upto_region 4 with (fail)
    rw[←HW2.out];clear k0 k1 k2 k3 u0 u1 u2 u3 HW2 cl;have ch:=(Xz.out w2 _ (show Sat W w2 (sep X (sep (blk g1 (.cells #[.int .i64 (-1),.int .i64 0,.int .i64 0,.bool false] 223 (0,0))) (blk g2 (.cells #[.int .i64 0,.int .i64 hn,.int .i64 hd,.bool (!ho)] 223 (0,0))))) by simpa only[aA,ay,aj] using H2.out)).2;have H3:=ah H2.out.p1;clear H2
    go_upto_region 6 with (fail)
    clear ch;have hD:=H3.out.drew;obtain⟨wd,hwd⟩:=aB (w2.drew);rw[←hwd] at hD;have oD:=ah hwd;obtain⟨a0,a1,a2,a3⟩:=qF hD;have hS0:wd.cell? ⟨g2,0,none⟩=some (.int .i64 0)∧wd.cell? ⟨g2,1,none⟩=some (.int .i64 hn)∧wd.cell? ⟨g2,2,none⟩=some (.int .i64 hd)∧wd.cell? ⟨g2,3,none⟩=some (.bool (!ho)):=qF hD.p1;rw[HX.out] at hD;have r1:=hD.p3;obtain⟨b0,b1,b2,b3⟩:=qF r1;obtain⟨c0,c1,c2,c3⟩:=ku r1;have h5:=iU r1 (.int .i64 (-1)) (.int .i64 0) (.int .i64 0) (.bool false);obtain⟨w5,hw5⟩:=aB ((((wd.setCell ⟨B+1,0,none⟩ (.int .i64 (-1))).setCell ⟨B+1,1,none⟩ (.int .i64 0)).setCell ⟨B+1,2,none⟩ (.int .i64 0)).setCell ⟨B+1,3,none⟩ (.bool false));rw[←hw5] at h5;have EJ:=ah hw5;have Jc:Hid (w5.cell? ⟨g2,0,none⟩=some (.int .i64 0)∧w5.cell? ⟨g2,1,none⟩=some (.int .i64 hn)∧w5.cell? ⟨g2,2,none⟩=some (.int .i64 hd)∧w5.cell? ⟨g2,3,none⟩=some (.bool (!ho))):=ah (qF h5.p2);have r2:=h5.p3;obtain⟨d0,d1,d2,d3⟩:=qF r2;obtain⟨e0,e1,e2,e3⟩:=ku r2;have h6:=iU r2 (.int .i64 0) (.int .i64 hn) (.int .i64 hd) (.bool (!ho));obtain⟨w6,hw6⟩:=aB ((((w5.setCell ⟨B+2,0,none⟩ (.int .i64 0)).setCell ⟨B+2,1,none⟩ (.int .i64 hn)).setCell ⟨B+2,2,none⟩ (.int .i64 hd)).setCell ⟨B+2,3,none⟩ (.bool (!ho)));rw[←hw6] at h6;have MQ:=ah hw6;have HR2:Hid (w6.cell? ⟨B+2,0,none⟩=some (.int .i64 0)∧w6.cell? ⟨B+2,1,none⟩=some (.int .i64 hn)∧w6.cell? ⟨B+2,2,none⟩=some (.int .i64 hd)∧w6.cell? ⟨B+2,3,none⟩=some (.bool (!ho))):=ah (qF h6);have HR1:Hid (w6.cell? ⟨B+1,0,none⟩=some (.int .i64 (-1))∧w6.cell? ⟨B+1,1,none⟩=some (.int .i64 0)∧w6.cell? ⟨B+1,2,none⟩=some (.int .i64 0)∧w6.cell? ⟨B+1,3,none⟩=some (.bool false)):=ah (qF h6.p1);have H6:=ah h6.forget.forget.forget.forget.forget;clear hwd hD r1 h5 hw5 r2 h6 hw6 H3;refine aG rfl (fun w'=>w'.cell? ⟨g2,0,none⟩=some (.int .i64 0)∧w'.cell? ⟨g2,1,none⟩=some (.int .i64 hn)∧w'.cell? ⟨g2,2,none⟩=some (.int .i64 hd)∧w'.cell? ⟨g2,3,none⟩=some (.bool (!ho))) [(0,.t),(1,.s),(2,.e true),(3,.e false)] (by kernel_rfl) ?_;rw[←oD.out];refine bF ?_
    clear a0 a1 a2 a3
    (refine jH rfl rfl (fun K hK=>?_);go_simp)
    rw[←EJ.out]
    (refine hK _ _ (fun _=>Jc.out) ?_;clear hK K;(try simp only[Act.put,lsA,lsB,kJ]))
    clear hS0 b0 b1 b2 b3 c0 c1 c2 c3 EJ oD
    (refine jH rfl rfl (fun K hK=>?_);go_simp)
    rw[←MQ.out];refine dQ ?_;clear hK K;refine dN ?_;clear d0 d1 d2 d3 e0 e1 e2 e3 MQ Jc;obtain⟨d0,d1,d2,d3⟩:=HR2.out;obtain⟨e0,e1,e2,e3⟩:=HR1.out
    go_wp2
    exact bodyPost_ret (v:=.tuple #[.agg #[.int .i64 (-1),.int .i64 0,.int .i64 0,.bool false],.agg #[.int .i64 0,.int .i64 hn,.int .i64 hd,.bool (!ho)]]) (by simp[results,Tryz.results214,go_sem,d0,d1,d2,d3,e0,e1,e2,e3]) rfl ⟨rfl,H6.out⟩
   | true=>
    as_aux_lemma=>
    have cl:=(Xz.out wc _ (show Sat W wc (sep X (sep (blk g1 (.cells #[.int .i64 0,.int .i64 ln,.int .i64 ld,.bool lo] 223 (0,0))) (blk g2 (.cells #[.int .i64 0,.int .i64 hn,.int .i64 hd,.bool (!ho)] 223 (0,0))))) by simpa only[aA,ay,aj] using hS)).1;obtain⟨k0,k1,k2,k3⟩:=qF hS;obtain⟨u0,u1,u2,u3⟩:=ku hS;have h2:=iU hS (.int .i64 (-1)) (.int .i64 0) (.int .i64 0) (.bool false);obtain⟨w2,hw2⟩:=aB ((((wc.setCell ⟨g1,0,none⟩ (.int .i64 (-1))).setCell ⟨g1,1,none⟩ (.int .i64 0)).setCell ⟨g1,2,none⟩ (.int .i64 0)).setCell ⟨g1,3,none⟩ (.bool false));rw[←hw2] at h2;have HW2:=ah hw2;have H2:=ah h2.p1;clear hw2 h2 hS
    go_upto_region 4 with (fail)
    rw[←HW2.out];clear k0 k1 k2 k3 u0 u1 u2 u3 HW2 cl;have ch:=(Xz.out w2 _ (show Sat W w2 (sep X (sep (blk g1 (.cells #[.int .i64 (-1),.int .i64 0,.int .i64 0,.bool false] 223 (0,0))) (blk g2 (.cells #[.int .i64 0,.int .i64 hn,.int .i64 hd,.bool (!ho)] 223 (0,0))))) by simpa only[aA,ay,aj] using H2.out)).2;obtain⟨k0,k1,k2,k3⟩:=qF H2.out;obtain⟨u0,u1,u2,u3⟩:=ku H2.out;have h3:=iU H2.out (.int .i64 1) (.int .i64 0) (.int .i64 0) (.bool false);obtain⟨w3,hw3⟩:=aB ((((w2.setCell ⟨g2,0,none⟩ (.int .i64 1)).setCell ⟨g2,1,none⟩ (.int .i64 0)).setCell ⟨g2,2,none⟩ (.int .i64 0)).setCell ⟨g2,3,none⟩ (.bool false));rw[←hw3] at h3;have HW3:=ah hw3;have H3:=ah h3.p1;clear hw3 h3 H2
    go_upto_region 6 with (fail)
    rw[←HW3.out];clear k0 k1 k2 k3 u0 u1 u2 u3 HW3 ch;have hD:=H3.out.drew;obtain⟨wd,hwd⟩:=aB (w3.drew);rw[←hwd] at hD;have oD:=ah hwd;obtain⟨a0,a1,a2,a3⟩:=qF hD;have hS0:wd.cell? ⟨g2,0,none⟩=some (.int .i64 1)∧wd.cell? ⟨g2,1,none⟩=some (.int .i64 0)∧wd.cell? ⟨g2,2,none⟩=some (.int .i64 0)∧wd.cell? ⟨g2,3,none⟩=some (.bool false):=qF hD.p1;rw[HX.out] at hD;have r1:=hD.p3;obtain⟨b0,b1,b2,b3⟩:=qF r1;obtain⟨c0,c1,c2,c3⟩:=ku r1;have h5:=iU r1 (.int .i64 (-1)) (.int .i64 0) (.int .i64 0) (.bool false);obtain⟨w5,hw5⟩:=aB ((((wd.setCell ⟨B+1,0,none⟩ (.int .i64 (-1))).setCell ⟨B+1,1,none⟩ (.int .i64 0)).setCell ⟨B+1,2,none⟩ (.int .i64 0)).setCell ⟨B+1,3,none⟩ (.bool false));rw[←hw5] at h5;have EJ:=ah hw5;have Jc:Hid (w5.cell? ⟨g2,0,none⟩=some (.int .i64 1)∧w5.cell? ⟨g2,1,none⟩=some (.int .i64 0)∧w5.cell? ⟨g2,2,none⟩=some (.int .i64 0)∧w5.cell? ⟨g2,3,none⟩=some (.bool false)):=ah (qF h5.p2);have r2:=h5.p3;obtain⟨d0,d1,d2,d3⟩:=qF r2;obtain⟨e0,e1,e2,e3⟩:=ku r2;have h6:=iU r2 (.int .i64 1) (.int .i64 0) (.int .i64 0) (.bool false);obtain⟨w6,hw6⟩:=aB ((((w5.setCell ⟨B+2,0,none⟩ (.int .i64 1)).setCell ⟨B+2,1,none⟩ (.int .i64 0)).setCell ⟨B+2,2,none⟩ (.int .i64 0)).setCell ⟨B+2,3,none⟩ (.bool false));rw[←hw6] at h6;have MQ:=ah hw6;have HR2:Hid (w6.cell? ⟨B+2,0,none⟩=some (.int .i64 1)∧w6.cell? ⟨B+2,1,none⟩=some (.int .i64 0)∧w6.cell? ⟨B+2,2,none⟩=some (.int .i64 0)∧w6.cell? ⟨B+2,3,none⟩=some (.bool false)):=ah (qF h6);have HR1:Hid (w6.cell? ⟨B+1,0,none⟩=some (.int .i64 (-1))∧w6.cell? ⟨B+1,1,none⟩=some (.int .i64 0)∧w6.cell? ⟨B+1,2,none⟩=some (.int .i64 0)∧w6.cell? ⟨B+1,3,none⟩=some (.bool false)):=ah (qF h6.p1);have H6:=ah h6.forget.forget.forget.forget.forget;clear hwd hD r1 h5 hw5 r2 h6 hw6 H3;refine aG rfl (fun w'=>w'.cell? ⟨g2,0,none⟩=some (.int .i64 1)∧w'.cell? ⟨g2,1,none⟩=some (.int .i64 0)∧w'.cell? ⟨g2,2,none⟩=some (.int .i64 0)∧w'.cell? ⟨g2,3,none⟩=some (.bool false)) [(0,.t),(1,.s),(2,.e true),(3,.e false)] (by kernel_rfl) ?_
    rw[←oD.out];refine bF ?_;clear a0 a1 a2 a3
    (refine jH rfl rfl (fun K hK=>?_);go_simp)
    rw[←EJ.out]
    (refine hK _ _ (fun _=>Jc.out) ?_;clear hK K;(try simp only[Act.put,lsA,lsB,kJ]))
    clear hS0 b0 b1 b2 b3 c0 c1 c2 c3 EJ oD
    (refine jH rfl rfl (fun K hK=>?_);go_simp)
    rw[←MQ.out];refine dQ ?_;clear hK K;refine dN ?_;clear d0 d1 d2 d3 e0 e1 e2 e3 MQ Jc;obtain⟨d0,d1,d2,d3⟩:=HR2.out;obtain⟨e0,e1,e2,e3⟩:=HR1.out
    go_wp2
    exact bodyPost_ret (v:=.tuple #[.agg #[.int .i64 (-1),.int .i64 0,.int .i64 0,.bool false],.agg #[.int .i64 1,.int .i64 0,.int .i64 0,.bool false]]) (by simp[results,Tryz.results214,go_sem,d0,d1,d2,d3,e0,e1,e2,e3]) rfl ⟨rfl,H6.out⟩
end Go.Proofs.YthfmaclnccdcbaaGreatDoor
namespace Go.Proofs.YthfmaclnccdcbaaGreatDoor
open Go.RowKit PA
structure Jg (x:Iv):Prop where
 lw:SV x.lw
 up:SV x.up
set_option maxRecDepth 100000 in
set_option maxHeartbeats 4000000 in
theorem Oq {W w:World} {A:aC} (x:Iv) (hB:Jg x) (h:Sat W w A):
 Calls Tryz.prog 213 #[.agg (FW x)] w fun e w'=>e=.returned (.bool (gX x))∧Sat W w' A:=by
 obtain⟨rv,dK⟩:=aB (gX x);have hlim:=CQ x;rw[←dK] at hlim ⊢;have rM:Hid (∀w' A',Sat W w' A'→Calls Tryz.prog 214 #[.agg (FW x)] w' fun e w''=>e=.returned (.tuple #[.agg (Dq x).cs.toArray,.agg (C9 x).cs.toArray])∧Sat W w'' A'):=ah fun w' A' h'=>wM x h'
 have jr:Hid (vH x.lw x.lo x.li=true→vH x.up x.ho x.hi=true→∀w' A',Sat W w' A'→Calls Tryz.prog 215 #[.agg (Dq x).cs.toArray,.agg (C9 x).cs.toArray] w' fun e w''=>e=.returned (.bool (N9 (Dq x) (C9 x)))∧Sat W w'' A'):=ah fun e1 e2 w' A' h'=>Dw (Dq x) (C9 x) (TM e1 e2) h'
 obtain⟨lt,hlt⟩:=aB (N9 (Dq x) (C9 x));rw[←hlt] at jr hlim;obtain⟨va,hva⟩:=aB ((Dq x).cs.toArray);obtain⟨vb,hvb⟩:=aB ((C9 x).cs.toArray);rw[←hva,←hvb] at rM jr;have hl1:=fun w' (A':aC) (h':Sat W w' A')=>F6 x.ln x.ld x.lo x.li hB.lw h'
 have hl2:=fun w' (A':aC) (h':Sat W w' A')=>F6 x.hn x.hd x.ho x.hi hB.up h'
 obtain⟨ln,ld,hn,hd,lo,ho,li,hi⟩:=x;simp only[Iv.lw,Iv.up] at hlim jr hl1 hl2;unfold FW at rM ⊢;simp only at rM ⊢;obtain⟨l1,e1⟩:=aB (vH ⟨ln,ld⟩ lo li);obtain⟨l2,e2⟩:=aB (vH ⟨hn,hd⟩ ho hi);rw[←e1] at hlim jr hl1;rw[←e2] at hlim jr hl2;have Vt:=ah hl1;have HL2:=ah hl2;have bM:=ah hlim;have h1:=h.alloc (.cells #[.int .i64 ln,.int .i64 ld,.int .i64 hn,.int .i64 hd,.bool lo,.bool ho,.bool li,.bool hi] 159);obtain⟨B,Zk⟩:=aB (w.heap.size);obtain⟨w1,hw1⟩:=aB (w.alloc (.cells #[.int .i64 ln,.int .i64 ld,.int .i64 hn,.int .i64 hd,.bool lo,.bool ho,.bool li,.bool hi] 159));rw[←Zk,←hw1] at h1;have Sr:=ah (And.intro Zk hw1);have H1:=ah h1;obtain⟨k0,k1,k2,k3,k4,k5,k6,k7⟩:=KE h1;clear dK hlt hva hvb hl1 hl2 e1 e2 hlim h h1 Zk hw1 hB;cases l1 with
 | false=>
  go_enter Tryz.func213,Tryz.ntmps213
  go_upto_region 1 with (fail)
  rw[←Sr.out.1,←Sr.out.2]
  go_wp2_with fail
  refine (Vt.out _ _ H1.out).mono ?_;rintro e w2 ⟨rfl,h2⟩;have H2:=ah h2.drop;clear h2 k0 k1 k2 k3 k4 k5 k6 k7
  go_wp2
  go_ret
  exact⟨by rw[bM.out];rfl,H2.out⟩
 | true=>
  cases l2 with
  | false=>
   go_enter Tryz.func213,Tryz.ntmps213
   go_upto_region 1 with (fail)
   rw[←Sr.out.1,←Sr.out.2]
   go_wp2_with fail
   refine (Vt.out _ _ H1.out).mono ?_;rintro e w2 ⟨rfl,h2⟩;clear k0 k1 k2 k3 k4 k5 k6 k7;obtain⟨k0,k1,k2,k3,k4,k5,k6,k7⟩:=KE h2;have H2:=ah h2;clear h2
   go_wp2_with fail
   refine (HL2.out _ _ H2.out).mono ?_;rintro e w3 ⟨rfl,h3⟩;have H3:=ah h3.drop;clear h3 k0 k1 k2 k3 k4 k5 k6 k7
   go_wp2
   go_ret
   exact⟨by rw[bM.out];rfl,H3.out⟩
  | true=>
   have ac5:=ah (jr.out rfl rfl)
   go_enter Tryz.func213,Tryz.ntmps213
   go_upto_region 1 with (fail)
   rw[←Sr.out.1,←Sr.out.2]
   go_wp2_with fail
   refine (Vt.out _ _ H1.out).mono ?_;rintro e w2 ⟨rfl,h2⟩;clear k0 k1 k2 k3 k4 k5 k6 k7;obtain⟨k0,k1,k2,k3,k4,k5,k6,k7⟩:=KE h2;have H2:=ah h2;clear h2
   go_wp2_with fail
   refine (HL2.out _ _ H2.out).mono ?_;rintro e w3 ⟨rfl,h3⟩;clear k0 k1 k2 k3 k4 k5 k6 k7;obtain⟨k0,k1,k2,k3,k4,k5,k6,k7⟩:=KE h3;have H3:=ah h3;clear h3
   go_wp2_with fail
   refine (rM.out _ _ H3.out).mono ?_;rintro e w4 ⟨rfl,h4⟩;have H4:=ah h4.drop;clear h4 k0 k1 k2 k3 k4 k5 k6 k7
   go_wp2_with fail
   refine (ac5.out _ _ H4.out).mono ?_;rintro e w5 ⟨rfl,h5⟩;have H5:=ah h5;clear h5
   go_wp2
   go_ret
   exact⟨by rw[bM.out];rfl,H5.out⟩
end Go.Proofs.YthfmaclnccdcbaaGreatDoor
namespace PA
open Go Go.RowKit
end PA
namespace Go.Proofs.YthfmaclnccdcbaaGreatDoor
open Go.RowKit PA
theorem Q8 {W w:World} {A:aC} (a:Option Addr) (n c:Nat) (h:Sat W w A):
 Calls Tryz.prog 216 #[.slice a n c] w fun e w'=>e=.returned (.int .i64 (if 32<n then 4 else 0))∧Sat W w' A:=by
 by_cases h1:32<n
 ·have h2:(32:Int)<n:=by omega
  rw[if_pos h1]
  go_enter Tryz.func216,Tryz.ntmps216
  go_wp2
  go_ret
  exact⟨rfl,h⟩
 ·have h2:¬(32:Int)<n:=by omega
  rw[if_neg h1]
  go_enter Tryz.func216,Tryz.ntmps216
  go_wp2
  go_ret
  exact⟨rfl,h⟩
set_option maxRecDepth 100000 in
set_option maxHeartbeats 8000000 in
theorem KL {W w:World} {A:aC} {I:Mem} (a:Option Addr) (c:Nat) (l:List Iv) (hv:(VB.slice 8).rel I [.slice a l.length c] l) (hB:∀x∈l,Jg x) (h:Sat W w (sep (kn I) A)):
 Calls Tryz.prog 198 #[.slice a l.length c] w fun e w'=>e=.returned (.int .i64 (Ji l))∧Sat W w' (sep (kn I) A):=by
 obtain⟨n,hn⟩:=aB (l.length);obtain⟨sv,hsv⟩:=aB (Ji l);have hl63:=(aI hv).2.2;rw[←hn] at hv hl63 ⊢;rw[←hsv];have Jd:=ah (And.intro hsv hn);have HV:=ah hv;have HB:=ah hB;have H:=ah h;clear hv h hsv hn hB
 go_enter Tryz.func198,Tryz.ntmps198
 go_wp2
 go_loopw [11] (fun iv wr=>∃i:Nat,iv=.int .i64 i∧i≤n∧Hid (Aw l i=true)∧Sat W wr (sep (kn I) A)) (fun iv _=>n-(intOf iv).toNat)
 case atStart=>exact⟨0,rfl,by omega,ah (zi l),H.out⟩
 case round=>
  obtain⟨i,rfl,hi,hsp,hS⟩:=hrel;clear H
  by_cases hlt:i<n
  ·have hltz:(i:Int)<(n:Int):=by omega
   have hil:i<l.length:=by have:=Jd.out.2;omega
   obtain⟨x,hx⟩:∃x,l[i]?=some x:=⟨_,List.getElem?_eq_getElem hil⟩
   have hxm:x∈l:=List.mem_of_getElem? hx;obtain⟨b,o,rfl,hcell⟩:=uV HV.out hx;have HC:=ah hcell;obtain⟨k0,k1,k2,k3,k4,k5,k6,k7⟩:=hcell wr hS.ext;have HGD:Hid (∀w' A',Sat W w' A'→Calls Tryz.prog 213 #[.agg (FW x)] w' fun e w''=>e=.returned (.bool (gX x))∧Sat W w'' A'):=ah fun w' A' h'=>Oq x (HB.out x hxm) h'
   have rM:Hid (∀w' A',Sat W w' A'→Calls Tryz.prog 214 #[.agg (FW x)] w' fun e w''=>e=.returned (.tuple #[.agg (Dq x).cs.toArray,.agg (C9 x).cs.toArray])∧Sat W w'' A'):=ah fun w' A' h'=>wM x h'
   obtain⟨g,hg⟩:=aB (gX x);rw[←hg] at HGD;have h2:=hS.alloc (.cells #[.int .i64 x.ln,.int .i64 x.ld,.int .i64 x.hn,.int .i64 x.hd,.bool x.lo,.bool x.ho,.bool x.li,.bool x.hi] 159);obtain⟨w2,hw2⟩:=aB (wr.alloc (.cells #[.int .i64 x.ln,.int .i64 x.ld,.int .i64 x.hn,.int .i64 x.hd,.bool x.lo,.bool x.ho,.bool x.li,.bool x.hi] 159));rw[←hw2] at h2;obtain⟨G,hG⟩:=aB (wr.heap.size);have HW2:=ah (And.intro hG hw2);rw[←hG] at h2;have H2:=ah h2;have HX:=ah (And.intro hx hg);have HI:=ah (And.intro hlt hil);clear hcell hS hx hg hlt hil hi hxm hw2 hG h2
   go_upto_region 4 with (fail)
   rw[←HW2.out.1,←HW2.out.2];clear k0 k1 k2 k3 k4 k5 k6 k7;obtain⟨k0,k1,k2,k3,k4,k5,k6,k7⟩:=KE H2.out;unfold FW at HGD
   go_wp2_with fail
   refine (HGD.out _ _ H2.out).mono ?_;rintro e w3 ⟨rfl,h3⟩;clear k0 k1 k2 k3 k4 k5 k6 k7;have H3:=ah h3;clear h3 H2 HW2 HGD;cases g with
   | false=>
    go_wp2
    go_ret
    refine⟨?_,H3.out.drop⟩;have hsa:rZ l i=false:=by
     cases hsa:rZ l i with
     | false=>rfl
     | true=>have:=vF HX.out.1 hsa;rw[←HX.out.2] at this;cases this
    have:sv=1:=by rw[Jd.out.1];unfold Ji;rw[if_pos (uq (by have:=HI.out.1;have:=Jd.out.2;omega) hsa)]
    rw[this];rfl
   | true=>
    cases i with
    | zero=>
     go_wp2
     go_roundw
     case rel=>exact⟨1,by go_num,by have:=HI.out;omega,ah (by rw[qy,hsp.out,Gv HX.out.1,←HX.out.2];rfl),H3.out.drop⟩
     case measure=>simp[intOf];have:=HI.out;omega
    | succ j=>
     as_aux_lemma=>
     obtain⟨y,hy⟩:∃y,l[j]?=some y:=⟨_,List.getElem?_eq_getElem (by have:=HI.out.2;omega)⟩
     obtain⟨b',o',e',hcj⟩:=uV HV.out hy;cases e';have QO:gX y=true:=vF hy (Qd (by omega) hsp.out);have YZ:Hid (∀w' A',Sat W w' A'→Calls Tryz.prog 214 #[.agg (FW y)] w' fun e w''=>e=.returned (.tuple #[.agg (Dq y).cs.toArray,.agg (C9 y).cs.toArray])∧Sat W w'' A'):=ah fun w' A' h'=>wM y h'
     have O1:Hid (∀w' A',Sat W w' A'→Calls Tryz.prog 215 #[.agg (C9 y).cs.toArray,.agg (Dq x).cs.toArray] w' fun e w''=>e=.returned (.bool (N9 (C9 y) (Dq x)))∧Sat W w'' A'):=ah fun w' A' h'=>Dw (C9 y) (Dq x) (TL QO HX.out.2.symm) h'
     obtain⟨ap,hap⟩:=aB (N9 (C9 y) (Dq x));rw[←hap] at O1;have abu:rZ l (j+1)=ap:=by
      rw[zh HX.out.1 hy,←HX.out.2,hap,←MX QO HX.out.2.symm];rfl
     obtain⟨⟨f1,n1,d1,b1⟩,he1⟩:∃z,z=Dq x:=⟨_,rfl⟩
     obtain⟨⟨f2,n2,d2,b2⟩,he2⟩:∃z,z=C9 x:=⟨_,rfl⟩
     obtain⟨⟨f3,n3,d3,b3⟩,he3⟩:∃z,z=Dq y:=⟨_,rfl⟩
     obtain⟨⟨f4,n4,d4,b4⟩,he4⟩:∃z,z=C9 y:=⟨_,rfl⟩
     rw[←he1,←he2] at rM;rw[←he3,←he4] at YZ;rw[←he1,←he4] at O1;have Xy:=ah abu;have hj0:(0:Int)<(j:Int)+1:=by omega
     have hjw:IntKind.i64.wrap ((j:Int)+1-1)=(j:Int):=by rw[show (j:Int)+1-1=(j:Int) by omega];exact IntWalk.i64_in _ (by have:=HI.out;omega)
     have hjn:(j:Int)<(n:Int):=by have:=HI.out;omega
     have HCJ:=ah hcj;clear hy hcj QO hap abu he1 he2 he3 he4;unfold FW at rM YZ;obtain⟨k0,k1,k2,k3,k4,k5,k6,k7⟩:=KE H3.out
     go_upto_region 7 with (fail)
     go_wp2_with fail
     refine (rM.out _ _ H3.out).mono ?_;rintro e w4 ⟨rfl,h4⟩;clear k0 k1 k2 k3 k4 k5 k6 k7 H3;have h5:=(h4.alloc (.cells #[.int .i64 f1,.int .i64 n1,.int .i64 d1,.bool b1] 223)).alloc (.cells #[.int .i64 f2,.int .i64 n2,.int .i64 d2,.bool b2] 223);rw[World.size_alloc] at h5;obtain⟨E,hE⟩:=aB (w4.heap.size);obtain⟨w5,hw5⟩:=aB ((w4.alloc (.cells #[.int .i64 f1,.int .i64 n1,.int .i64 d1,.bool b1] 223)).alloc (.cells #[.int .i64 f2,.int .i64 n2,.int .i64 d2,.bool b2] 223));rw[←hE,←hw5] at h5;have EJ:=ah (And.intro hE hw5);have H5:=ah h5;clear hE hw5 h5 h4;simp only[En.cs]
     go_upto_region 8 with (fail)
     rw[←EJ.out.1,←EJ.out.2];obtain⟨j0,j1,j2,j3,j4,j5,j6,j7⟩:=HCJ.out w5 H5.out.p3.ext
     go_wp2_with fail
     refine (YZ.out _ _ H5.out).mono ?_;rintro e w6 ⟨rfl,h6⟩;clear j0 j1 j2 j3 j4 j5 j6 j7 H5 EJ;have h7:=(h6.alloc (.cells #[.int .i64 f3,.int .i64 n3,.int .i64 d3,.bool b3] 223)).alloc (.cells #[.int .i64 f4,.int .i64 n4,.int .i64 d4,.bool b4] 223);rw[World.size_alloc] at h7;obtain⟨E2,hE2⟩:=aB (w6.heap.size);obtain⟨w7,hw7⟩:=aB ((w6.alloc (.cells #[.int .i64 f3,.int .i64 n3,.int .i64 d3,.bool b3] 223)).alloc (.cells #[.int .i64 f4,.int .i64 n4,.int .i64 d4,.bool b4] 223));rw[←hE2,←hw7] at h7;have HW7:=ah (And.intro hE2 hw7);have H7:=ah h7;clear hE2 hw7 h7 h6;simp only[En.cs]
     go_upto_region 9 with (fail)
     rw[←HW7.out.1,←HW7.out.2];obtain⟨j0,j1,j2,j3⟩:=qF H7.out;obtain⟨k0,k1,k2,k3⟩:=qF H7.out.p3;unfold En.cs at O1
     go_wp2_with fail
     refine (O1.out _ _ H7.out).mono ?_;rintro e w8 ⟨rfl,h8⟩;have H8:=ah h8.forget.forget.forget.forget.forget;clear h8 H7 HW7 j0 j1 j2 j3 k0 k1 k2 k3;cases ap with
     | true=>
      go_wp2
      go_roundw
      case rel=>exact⟨j+2,by go_num,by have:=HI.out;omega,ah (by rw[qy,hsp.out,Xy.out];rfl),H8.out⟩
      case measure=>simp[intOf];have:=HI.out;omega
     | false=>
      go_wp2
      go_ret
      refine⟨?_,H8.out⟩;have:sv=1:=by rw[Jd.out.1];unfold Ji;rw[if_pos (uq (by have:=HI.out.1;have:=Jd.out.2;omega) Xy.out)]
      rw[this];rfl
  ·obtain rfl:i=n:=by omega
   have hfew:=Q8 a i c hS;have hend:sv=if 32<i then 4 else 0:=by
    rw[Jd.out.1];unfold Ji;rw[←Jd.out.2,if_neg (by rw[hsp.out];simp)]
   rw[←hend] at hfew;have ac2:=ah hfew;clear hS hlt hi hsp hend hfew
   go_wp2_with fail
   refine ac2.out.mono ?_;rintro e w2 ⟨rfl,h2⟩
   go_wp2
   go_ret
   exact⟨rfl,h2⟩
end Go.Proofs.YthfmaclnccdcbaaGreatDoor

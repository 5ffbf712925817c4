/- Part of a proof. -/
import Derived.Test.YthfmaclnccdcbaaGreatDoorZFO16
import Derived.Deep.CutBlock
import Derived.Test.YthfmaclnccdcbaaGreatDoorZFO15
import Derived.Lib.AppendZeros
namespace PA
open Go Go.RowKit
theorem gQ {α:Type} {R:Rep α} {k:Nat} {I:Mem} {c d:List Value} {xs ys:List α} (h:(R.rows k).rel I c xs) (h':(R.rows k).rel I d ys):(R.rows k).rel I (c++d) (xs++ys):=by
 obtain⟨c1,rfl,h1⟩:=h;obtain⟨c2,rfl,h2⟩:=h';exact⟨c1++c2,by simp,h1.append h2⟩
theorem lN {α:Type} (R:Rep α) (k:Nat) (I:Mem):(R.rows k).rel I [] []:=⟨[],rfl,trivial⟩
theorem zf {I:Mem} {cs:List Value} {f:Fm} (h:rF.rel I cs f):∀u∈cs,u.oneCell'=true:=by
 obtain⟨o,n,i,k⟩:=f;obtain⟨a,c,b,d,rfl,-,-⟩:=dW.1 h;intro u hu;simp only[List.mem_cons,List.not_mem_nil,or_false] at hu;rcases hu with rfl|rfl|rfl|rfl<;>rfl
theorem Bq {I:Mem}:∀{css:List (List Value)} {xs:List Fm},gU (fun c x=>rF.rel I c x∧c.length=4) css xs→∀u∈css.flatten,u.oneCell'=true
 | [],[],_,u,hu=>by cases hu
 | c::css,x::xs,h,u,hu=>by
  rw[List.flatten_cons,List.mem_append] at hu;rcases hu with hu|hu
  ·exact zf h.1.1 u hu
  ·exact Bq h.2 u hu
 | [],_::_,h,_,_=>h.elim
 | _::_,[],h,_,_=>h.elim
theorem wZ {α:Type} {R:Rep α} {k:Nat} {I:Mem}:∀{css:List (List Value)} {xs:List α},gU (fun c x=>R.rel I c x∧c.length=k) css xs→css.flatten.length=xs.length*k
 | [],[],_=>by simp
 | c::css,x::xs,h=>by
  rw[List.flatten_cons,dM,h.1.2,wZ h.2,oP,Nat.add_mul];omega
 | [],_::_,h=>h.elim
 | _::_,[],h=>h.elim
theorem lU {I:Mem} {a:Option Addr} {n c:Nat} {l:List Fm} (h:(rF.slice 4).rel I [.slice a n c] l):
 ∃vs:List Value,vs.length=n*4∧(a=none→n=0)∧(∀u∈vs,u.oneCell'=true)∧(rF.rows 4).rel I vs l∧∀w',Ext I w'→∀b,a=some b→∀j u,vs[j]?=some u→w'.cell? (b.add j)=some u:=by
 obtain⟨a',c',cells,e,hsw,hc,hr⟩:=h;simp only[List.cons.injEq,Value.slice.injEq,and_true] at e;obtain⟨rfl,rfl,rfl⟩:=e;obtain⟨css,rfl,h2⟩:=id hr;exact⟨css.flatten,wZ h2,fun e=>by have:=hsw.2.2 e;have:=hsw.1;omega,Bq h2,hr,fun w' he=>CY hc he⟩
theorem jA {W w:World} {A:aB} {J:Mem} {E:Nat} {a:Option Addr} {n c:Nat} {vs:List Value} {xs:List Fm} (hr:(rF.rows 4).rel J vs xs) (hn:n=xs.length) (h:Sat W w (sep (aT E 4 a n c vs) (sep (kn J) A))):
 ∃J',Mem.le J J'∧(rF.slice 4).rel J' [.slice a n c] xs∧Sat W w (sep (kn J') A):=by
 have hsw:=h.fQ;obtain⟨J',hle,hJ,h9⟩:=h.eF.learn;exact⟨J',hle,⟨a,c,vs,by rw[hn],by rw[←hn];exact hsw,hJ,(rF.rows 4).mono hle hr⟩,h9⟩
theorem Fm.zo:∀f:Fm,f.dO.length≤f.size:=by
 intro f;refine Fm.ind (P:=fun f=>f.dO.length≤f.size) (fun o n i k ih=>?_) f;rw[Fm.dO,Fm.size];split
 ·have:(Fm.aZ k).length≤Fm.sizes k:=by
   induction k with
   | nil=>simp[Fm.aZ]
   | cons g k ihk=>
    rw[Fm.aZ,Fm.sizes,dM];have h1:=ih g (List.mem_cons_self ..);have h2:=ihk fun f hf=>ih f (tY _ hf)
    omega
  omega
 ·simp
theorem Fm.rO (l:List Fm):(Fm.aZ l).length≤Fm.sizes l:=by
 induction l with
 | nil=>simp[Fm.aZ]
 | cons g l ih=>rw[Fm.aZ,Fm.sizes,dM];have:=Fm.zo g;omega
theorem Fm.zq (l:List Fm) (i:Nat) {f:Fm} (h:l[i]?=some f):Fm.aZ (l.take (i+1))=Fm.aZ (l.take i)++Fm.dO f:=by
 obtain⟨hi,rfl⟩:=qM h;exact Fm.FI l i hi
end PA
namespace Go.Proofs.YthfmaclnccdcbaaGreatDoor
open Go.RowKit PA
set_option maxHeartbeats 4000000
attribute [local go_sem ↓] iF
attribute [local go_sem] DN
set_option maxRecDepth 100000 in
theorem JI {W:World} (f:Fm):∀(w:World) (A:aB) (I:Mem) (p q:Int) (x1:Option Addr) (n1 c1:Nat) (x2:Option Addr) (n2 c2:Nat),rF.rel I [.int .i64 p,.int .i64 q,.slice x1 n1 c1,.slice x2 n2 c2] f→f.size≤nN→Sat W w (sep (kn I) A) →
 Calls Tryz.prog 233 #[.agg #[.int .i64 p,.int .i64 q,.slice x1 n1 c1,.slice x2 n2 c2]] w fun e w'=>∃(a:Option Addr) (n c:Nat) (J:Mem),e=.returned (.slice a n c)∧n=f.dO.length∧Mem.le I J∧(rF.slice 4).rel J [.slice a n c] f.dO∧Sat W w' (sep (kn J) A):=by
 refine Fm.ind (P:=fun f=>∀(w:World) (A:aB) (I:Mem) (p q:Int) (x1:Option Addr) (n1 c1:Nat) (x2:Option Addr) (n2 c2:Nat),rF.rel I [.int .i64 p,.int .i64 q,.slice x1 n1 c1,.slice x2 n2 c2] f→f.size≤nN→Sat W w (sep (kn I) A) →
  Calls Tryz.prog 233 #[.agg #[.int .i64 p,.int .i64 q,.slice x1 n1 c1,.slice x2 n2 c2]] w fun e w'=>∃(a:Option Addr) (n c:Nat) (J:Mem),e=.returned (.slice a n c)∧n=f.dO.length∧Mem.le I J∧(rF.slice 4).rel J [.slice a n c] f.dO∧Sat W w' (sep (kn J) A)) (fun o n i k ih=>?_) f
 intro w A I p q x1 n1 c1 x2 n2 c2 hr hsz h;have hr0:=hr;obtain⟨x1',c1',x2',c2',e,hi,hk⟩:=dW.1 hr;simp only[List.cons.injEq,Value.int.injEq,Value.slice.injEq,true_and,and_true] at e;obtain⟨rfl,rfl,⟨rfl,rfl,rfl⟩,⟨rfl,rfl,rfl⟩⟩:=e;have h1:=h.alloc (.cells #[.int .i64 p,.int .i64 q,.slice x1 i.length c1,.slice x2 k.length c2] 34);obtain⟨nk,hnk⟩:=aC (k.length);obtain⟨ni,hni⟩:=aC (i.length);have uP:=(aJ hk).2.2;have HIH:=ah ih;rw[←hnk,←hni] at hr0;rw[←hnk] at hk uP h1 ⊢;rw[←hni] at h1 ⊢;obtain⟨B,hB⟩:=aC (w.heap.size);obtain⟨w1,hw1⟩:=aC (w.alloc (.cells #[.int .i64 p,.int .i64 q,.slice x1 ni c1,.slice x2 nk c2] 34));rw[←hB,←hw1] at h1;have HB:=ah (aH hB hw1);have H1:=ah h1;obtain⟨k0,k1,k2,k3⟩:=lH h1;have HR:=ah (aH hr0 (aH hk (aH hnk hsz)));clear hr hr0 hsz h hi hk h1 hB hw1 hnk hni ih;by_cases o5:p=5
 ·subst o5
  have Dn:Hid (∀r,r=Fm.aZ k→r=(Fm.mk 5 q i k).dO):=ah (fun r e=>by rw[e,Fm.dO,if_pos rfl]);have WH:Fm.sizes k≤1000000:=by have:=HR.out.2.2.2;rw[Fm.size] at this;unfold nN at this;omega
  have KI:=ah WH;clear WH;go_enter Tryz.func233,Tryz.ntmps233;go_upto_region 1 with fail;rw[←HB.out.1,←HB.out.2];go_upto_region 4 with fail;clear k0 k1 k2 k3;go_wp2_with fail;go_loopw [3,4] (fun ov iv wr=>∃(j m d:Nat) (b:Option Addr) (vs:List Value) (J:Mem),ov=.slice b m d∧iv=.int .i64 j∧j≤nk∧m≤1000000∧Hid (m=(Fm.aZ (k.take j)).length∧Mem.le I J∧(rF.rows 4).rel J vs (Fm.aZ (k.take j)))∧Sat W wr (sep (aT 34 4 b m d vs) (sep (kn J) (sep (blk B (.cells #[.int .i64 5,.int .i64 q,.slice x1 ni c1,.slice x2 nk c2] 34 (0,0))) A)))) (fun _ iv _=>nk-(intOf iv).toNat)
  case atStart=>exact⟨0,0,0,none,[],I,rfl,rfl,by omega,by omega,ah ⟨by simp[Fm.aZ],bW _,by simp only[List.take_zero,Fm.aZ];exact lN _ _ _⟩,(H1.out.p1).fV 34 4⟩
  case round=>
   obtain⟨j,m,d,b,vs,J,rfl,rfl,hj,hm6,HV,hS⟩:=hrel;obtain⟨-,-,-,k3⟩:=lH hS.p2;by_cases hlt:j<nk
   ·have hltz:(j:Int)<(nk:Int):=by omega
    obtain⟨g,hg⟩:∃g,k[j]?=some g:=⟨_,iM (by have:=HR.out.2.2.1;omega)⟩
    obtain⟨b2,o2,p',q',y1,m1,d1,y2,m2,d2,rfl,hgr,hcell⟩:=gY HR.out.2.1 hg;have hmem:g∈k:=mZ hg;have X8:=rF.mono HV.out.2.1 hgr;obtain⟨j0,j1,j2,j3⟩:=hcell wr (fun i o hb=>hS.p1.ext i o (HV.out.2.1 i o hb));have htk:=Fm.zq k j hg;have hgs:=Fm.lQ hmem;have hrec:=HIH.out g hmem wr _ J p' q' y1 m1 d1 y2 m2 d2 X8 (by have:=KI.out;unfold nN;omega) hS.p1;have MI:(Fm.aZ (k.take (j+1))).length≤1000000:=by have h1:=Fm.rO (k.take (j+1));have h2:=Fm.rH k (j+1);have:=KI.out;omega
    have QY:=ah hrec;have HT:=ah (aH htk MI);have HL:=ah hlt;clear hgr hcell hmem X8 htk hgs hrec hg hS hlt hj MI H1;go_upto_region 7 with fail;go_wp2_with fail;refine QY.out.mono ?_;rintro e w2 ⟨a3,n3,c3,J3,rfl,hn3,hle3,hr3,h2⟩;obtain⟨us,zB,hu0,hu1,hur,jQ⟩:=lU hr3;have hmn:m+n3≤1000000:=by have:=HT.out.2;rw[HT.out.1,dM,←HV.out.1,←hn3] at this;exact this
    have HU:=ah (aH zB (aH hu0 (aH hu1 (aH hur (jQ w2 h2.ext)))));have HN:=ah (aH hmn (aH hn3 hle3));have H2:=ah (show Sat W w2 (sep (aT 34 4 b m d vs) (sep (kn J3) (sep (blk B (.cells #[.int .i64 5,.int .i64 q,.slice x1 ni c1,.slice (some ⟨b2,o2,none⟩) nk c2] 34 (0,0))) A))) from h2.p1);clear h2 zB hu0 hu1 hur jQ hmn hn3 hle3 hr3 QY j0 j1 j2 j3 k3;go_wp2_with (at_builtin;go_loud (refine aK rfl _ _ 27 rfl 34 4 64 _ Tryz.underlying27 iQ rfl rfl H2.out rfl us HU.out.1 HU.out.2.1 HU.out.2.2.2.2 HU.out.2.2.1 (by have:=HN.out.1;omega) (by unfold maxLen;have:=HN.out.1;omega) ?_))
    intro a4 c4 w4 h4;have H4:=ah h4;clear h4 H2;go_wp2;go_roundw;case rel=>exact⟨j+1,m+n3,c4,a4,vs++us,J3,rfl,by go_num,by have:=HL.out;omega,HN.out.1,ah ⟨by rw[HT.out.1,dM,←HV.out.1,←HN.out.2.1],eG HV.out.2.1 HN.out.2.2,by rw[HT.out.1];exact gQ ((rF.rows 4).mono HN.out.2.2 HV.out.2.2) HU.out.2.2.2.1⟩,H4.out⟩
    case measure=>simp[intOf];have:=HL.out;omega
   ·obtain rfl:j=nk:=by omega
    obtain⟨hv1,hv2,hv3⟩:=HV.out;rw[List.take_of_length_le (by have:=HR.out.2.2.1;omega)] at hv1 hv3;obtain⟨J',hle',hr',h'⟩:=jA hv3 hv1 hS;have HF:=ah (aH hv1 (aH (eG hv2 hle') (aH hr' h'.p1.drop)));clear hS hv1 hv2 hv3 hle' hr' h' H1;go_wp2;go_ret;rw[←Dn.out _ rfl];exact⟨b,m,d,J',rfl,HF.out.1,HF.out.2.1,HF.out.2.2.1,HF.out.2.2.2⟩
 ·have Dn:Hid ((Fm.mk p q i k).dO=[Fm.mk p q i k]):=ah (by rw[Fm.dO,if_neg o5])
  have o5':(p !=5)=true:=by simpa using o5
  have h5:=H1.out.alloc (.cells #[.int .i64 p,.int .i64 q,.slice x1 ni c1,.slice x2 nk c2] 34);obtain⟨J',hle',hr',h6⟩:=wJ (R:=rF) (k:=4) (show Sat W w1 (sep (kn I) (sep (blk B (.cells #[.int .i64 p,.int .i64 q,.slice x1 ni c1,.slice x2 nk c2] 34 (0,0))) A)) from H1.out.p1) [.int .i64 p,.int .i64 q,.slice x1 ni c1,.slice x2 nk c2] [Fm.mk p q i k] 34 (jg HR.out.1 rfl) (by simp[maxLen]);have HF:=ah (aH hle' (aH hr' h6.p1.drop));clear h5 hle' hr' h6 o5;go_enter Tryz.func233,Tryz.ntmps233;go_upto_region 1 with fail;rw[←HB.out.1,←HB.out.2];go_wp2;go_ret;rw[Dn.out];exact⟨_,_,_,J',rfl,rfl,HF.out.1,HF.out.2.1,HF.out.2.2⟩
set_option maxRecDepth 100000 in
theorem GK {W:World} (f:Fm):∀(w:World) (A:aB) (I:Mem) (p q:Int) (x1:Option Addr) (n1 c1:Nat) (x2:Option Addr) (n2 c2:Nat),rF.rel I [.int .i64 p,.int .i64 q,.slice x1 n1 c1,.slice x2 n2 c2] f→f.size≤nN→Sat W w (sep (kn I) A) →
 Calls Tryz.prog 203 #[.agg #[.int .i64 p,.int .i64 q,.slice x1 n1 c1,.slice x2 n2 c2]] w fun e w'=>∃(a:Option Addr) (n c:Nat) (J:Mem),e=.returned (.slice a n c)∧n=f.dO.length∧Mem.le I J∧(rF.slice 4).rel J [.slice a n c] f.dO∧Sat W w' (sep (kn J) A):=by
 refine Fm.ind (P:=fun f=>∀(w:World) (A:aB) (I:Mem) (p q:Int) (x1:Option Addr) (n1 c1:Nat) (x2:Option Addr) (n2 c2:Nat),rF.rel I [.int .i64 p,.int .i64 q,.slice x1 n1 c1,.slice x2 n2 c2] f→f.size≤nN→Sat W w (sep (kn I) A) →
  Calls Tryz.prog 203 #[.agg #[.int .i64 p,.int .i64 q,.slice x1 n1 c1,.slice x2 n2 c2]] w fun e w'=>∃(a:Option Addr) (n c:Nat) (J:Mem),e=.returned (.slice a n c)∧n=f.dO.length∧Mem.le I J∧(rF.slice 4).rel J [.slice a n c] f.dO∧Sat W w' (sep (kn J) A)) (fun o n i k ih=>?_) f
 intro w A I p q x1 n1 c1 x2 n2 c2 hr hsz h;have hr0:=hr;obtain⟨x1',c1',x2',c2',e,hi,hk⟩:=dW.1 hr;simp only[List.cons.injEq,Value.int.injEq,Value.slice.injEq,true_and,and_true] at e;obtain⟨rfl,rfl,⟨rfl,rfl,rfl⟩,⟨rfl,rfl,rfl⟩⟩:=e;have h1:=h.alloc (.cells #[.int .i64 p,.int .i64 q,.slice x1 i.length c1,.slice x2 k.length c2] 34);obtain⟨nk,hnk⟩:=aC (k.length);obtain⟨ni,hni⟩:=aC (i.length);have uP:=(aJ hk).2.2;have HIH:=ah ih;rw[←hnk,←hni] at hr0;rw[←hnk] at hk uP h1 ⊢;rw[←hni] at h1 ⊢;obtain⟨B,hB⟩:=aC (w.heap.size);obtain⟨w1,hw1⟩:=aC (w.alloc (.cells #[.int .i64 p,.int .i64 q,.slice x1 ni c1,.slice x2 nk c2] 34));rw[←hB,←hw1] at h1;have HB:=ah (aH hB hw1);have H1:=ah h1;obtain⟨k0,k1,k2,k3⟩:=lH h1;have HR:=ah (aH hr0 (aH hk (aH hnk hsz)));clear hr hr0 hsz h hi hk h1 hB hw1 hnk hni ih;by_cases o5:p=5
 ·subst o5
  have Dn:Hid (∀r,r=Fm.aZ k→r=(Fm.mk 5 q i k).dO):=ah (fun r e=>by rw[e,Fm.dO,if_pos rfl]);have WH:Fm.sizes k≤1000000:=by have:=HR.out.2.2.2;rw[Fm.size] at this;unfold nN at this;omega
  have KI:=ah WH;clear WH;go_enter Tryz.func203,Tryz.ntmps203;go_upto_region 1 with fail;rw[←HB.out.1,←HB.out.2];go_upto_region 4 with fail;clear k0 k1 k2 k3;go_wp2_with fail;go_loopw [3,4] (fun ov iv wr=>∃(j m d:Nat) (b:Option Addr) (vs:List Value) (J:Mem),ov=.slice b m d∧iv=.int .i64 j∧j≤nk∧m≤1000000∧Hid (m=(Fm.aZ (k.take j)).length∧Mem.le I J∧(rF.rows 4).rel J vs (Fm.aZ (k.take j)))∧Sat W wr (sep (aT 34 4 b m d vs) (sep (kn J) (sep (blk B (.cells #[.int .i64 5,.int .i64 q,.slice x1 ni c1,.slice x2 nk c2] 34 (0,0))) A)))) (fun _ iv _=>nk-(intOf iv).toNat)
  case atStart=>exact⟨0,0,0,none,[],I,rfl,rfl,by omega,by omega,ah ⟨by simp[Fm.aZ],bW _,by simp only[List.take_zero,Fm.aZ];exact lN _ _ _⟩,(H1.out.p1).fV 34 4⟩
  case round=>
   obtain⟨j,m,d,b,vs,J,rfl,rfl,hj,hm6,HV,hS⟩:=hrel;obtain⟨-,-,-,k3⟩:=lH hS.p2;by_cases hlt:j<nk
   ·have hltz:(j:Int)<(nk:Int):=by omega
    obtain⟨g,hg⟩:∃g,k[j]?=some g:=⟨_,iM (by have:=HR.out.2.2.1;omega)⟩
    obtain⟨b2,o2,p',q',y1,m1,d1,y2,m2,d2,rfl,hgr,hcell⟩:=gY HR.out.2.1 hg;have hmem:g∈k:=mZ hg;have X8:=rF.mono HV.out.2.1 hgr;obtain⟨j0,j1,j2,j3⟩:=hcell wr (fun i o hb=>hS.p1.ext i o (HV.out.2.1 i o hb));have htk:=Fm.zq k j hg;have hgs:=Fm.lQ hmem;have hrec:=HIH.out g hmem wr _ J p' q' y1 m1 d1 y2 m2 d2 X8 (by have:=KI.out;unfold nN;omega) hS.p1;have MI:(Fm.aZ (k.take (j+1))).length≤1000000:=by have h1:=Fm.rO (k.take (j+1));have h2:=Fm.rH k (j+1);have:=KI.out;omega
    have QY:=ah hrec;have HT:=ah (aH htk MI);have HL:=ah hlt;clear hgr hcell hmem X8 htk hgs hrec hg hS hlt hj MI H1;go_upto_region 7 with fail;go_wp2_with fail;refine QY.out.mono ?_;rintro e w2 ⟨a3,n3,c3,J3,rfl,hn3,hle3,hr3,h2⟩;obtain⟨us,zB,hu0,hu1,hur,jQ⟩:=lU hr3;have hmn:m+n3≤1000000:=by have:=HT.out.2;rw[HT.out.1,dM,←HV.out.1,←hn3] at this;exact this
    have HU:=ah (aH zB (aH hu0 (aH hu1 (aH hur (jQ w2 h2.ext)))));have HN:=ah (aH hmn (aH hn3 hle3));have H2:=ah (show Sat W w2 (sep (aT 34 4 b m d vs) (sep (kn J3) (sep (blk B (.cells #[.int .i64 5,.int .i64 q,.slice x1 ni c1,.slice (some ⟨b2,o2,none⟩) nk c2] 34 (0,0))) A))) from h2.p1);clear h2 zB hu0 hu1 hur jQ hmn hn3 hle3 hr3 QY j0 j1 j2 j3 k3;go_wp2_with (at_builtin;go_loud (refine aK rfl _ _ 27 rfl 34 4 64 _ Tryz.underlying27 iQ rfl rfl H2.out rfl us HU.out.1 HU.out.2.1 HU.out.2.2.2.2 HU.out.2.2.1 (by have:=HN.out.1;omega) (by unfold maxLen;have:=HN.out.1;omega) ?_))
    intro a4 c4 w4 h4;have H4:=ah h4;clear h4 H2;go_wp2;go_roundw;case rel=>exact⟨j+1,m+n3,c4,a4,vs++us,J3,rfl,by go_num,by have:=HL.out;omega,HN.out.1,ah ⟨by rw[HT.out.1,dM,←HV.out.1,←HN.out.2.1],eG HV.out.2.1 HN.out.2.2,by rw[HT.out.1];exact gQ ((rF.rows 4).mono HN.out.2.2 HV.out.2.2) HU.out.2.2.2.1⟩,H4.out⟩
    case measure=>simp[intOf];have:=HL.out;omega
   ·obtain rfl:j=nk:=by omega
    obtain⟨hv1,hv2,hv3⟩:=HV.out;rw[List.take_of_length_le (by have:=HR.out.2.2.1;omega)] at hv1 hv3;obtain⟨J',hle',hr',h'⟩:=jA hv3 hv1 hS;have HF:=ah (aH hv1 (aH (eG hv2 hle') (aH hr' h'.p1.drop)));clear hS hv1 hv2 hv3 hle' hr' h' H1;go_wp2;go_ret;rw[←Dn.out _ rfl];exact⟨b,m,d,J',rfl,HF.out.1,HF.out.2.1,HF.out.2.2.1,HF.out.2.2.2⟩
 ·have Dn:Hid ((Fm.mk p q i k).dO=[Fm.mk p q i k]):=ah (by rw[Fm.dO,if_neg o5])
  have o5':(p !=5)=true:=by simpa using o5
  have h5:=H1.out.alloc (.cells #[.int .i64 p,.int .i64 q,.slice x1 ni c1,.slice x2 nk c2] 34);obtain⟨J',hle',hr',h6⟩:=wJ (R:=rF) (k:=4) (show Sat W w1 (sep (kn I) (sep (blk B (.cells #[.int .i64 p,.int .i64 q,.slice x1 ni c1,.slice x2 nk c2] 34 (0,0))) A)) from H1.out.p1) [.int .i64 p,.int .i64 q,.slice x1 ni c1,.slice x2 nk c2] [Fm.mk p q i k] 34 (jg HR.out.1 rfl) (by simp[maxLen]);have HF:=ah (aH hle' (aH hr' h6.p1.drop));clear h5 hle' hr' h6 o5;go_enter Tryz.func203,Tryz.ntmps203;go_upto_region 1 with fail;rw[←HB.out.1,←HB.out.2];go_wp2;go_ret;rw[Dn.out];exact⟨_,_,_,J',rfl,rfl,HF.out.1,HF.out.2.1,HF.out.2.2⟩
theorem wX {W w:World} {A:aB} {I:Mem} (f:Fm) (p q:Int) (x1:Option Addr) (n1 c1:Nat) (x2:Option Addr) (n2 c2:Nat) (hr:rF.rel I [.int .i64 p,.int .i64 q,.slice x1 n1 c1,.slice x2 n2 c2] f) (h:Sat W w (sep (kn I) A)):
 Calls Tryz.prog 234 #[.agg #[.int .i64 p,.int .i64 q,.slice x1 n1 c1,.slice x2 n2 c2]] w fun e w'=>∃(a:Option Addr) (n c:Nat) (J:Mem),e=.returned (.slice a n c)∧n=f.parts.length∧Mem.le I J∧(rF.slice 4).rel J [.slice a n c] f.parts∧Sat W w' (sep (kn J) A):=by
 obtain⟨o,n,i,k⟩:=f;have hr0:=hr;obtain⟨x1',c1',x2',c2',e,hi,hk⟩:=dW.1 hr;simp only[List.cons.injEq,Value.int.injEq,Value.slice.injEq,true_and,and_true] at e;obtain⟨rfl,rfl,⟨rfl,rfl,rfl⟩,⟨rfl,rfl,rfl⟩⟩:=e;have h1:=h.alloc (.cells #[.int .i64 p,.int .i64 q,.slice x1 i.length c1,.slice x2 k.length c2] 34);obtain⟨nk,hnk⟩:=aC (k.length);obtain⟨ni,hni⟩:=aC (i.length);rw[←hnk,←hni] at hr0;rw[←hnk] at hk h1 ⊢;rw[←hni] at h1 ⊢;obtain⟨B,hB⟩:=aC (w.heap.size);obtain⟨w1,hw1⟩:=aC (w.alloc (.cells #[.int .i64 p,.int .i64 q,.slice x1 ni c1,.slice x2 nk c2] 34));rw[←hB,←hw1] at h1;have HB:=ah (aH hB hw1);have H1:=ah h1;obtain⟨k0,k1,k2,k3⟩:=lH h1;have HR:=ah (aH hr0 (aH hk hnk));clear hr hr0 h hi hk h1 hB hw1 hnk hni;by_cases o4:p=4
 ·subst o4
  have Dn:Hid ((Fm.mk 4 q i k).parts=k):=ah (show (if (4:Int)=4 then k else [Fm.mk 4 q i k])=k from if_pos rfl);go_enter Tryz.func234,Tryz.ntmps234;go_upto_region 1 with fail;rw[←HB.out.1,←HB.out.2];go_wp2;go_ret;rw[Dn.out];exact⟨_,_,_,I,rfl,HR.out.2.2,bW _,HR.out.2.1,H1.out.drop⟩
 ·have Dn:Hid ((Fm.mk p q i k).parts=[Fm.mk p q i k]):=ah (show (if p=4 then k else [Fm.mk p q i k])=[Fm.mk p q i k] from if_neg o4)
  have o4':(p==4)=false:=by simpa using o4
  obtain⟨J',hle',hr',h6⟩:=wJ (R:=rF) (k:=4) (show Sat W w1 (sep (kn I) (sep (blk B (.cells #[.int .i64 p,.int .i64 q,.slice x1 ni c1,.slice x2 nk c2] 34 (0,0))) A)) from H1.out.p1) [.int .i64 p,.int .i64 q,.slice x1 ni c1,.slice x2 nk c2] [Fm.mk p q i k] 34 (jg HR.out.1 rfl) (by simp[maxLen]);have HF:=ah (aH hle' (aH hr' h6.p1.drop));clear hle' hr' h6 o4;go_enter Tryz.func234,Tryz.ntmps234;go_upto_region 1 with fail;rw[←HB.out.1,←HB.out.2];go_wp2;go_ret;rw[Dn.out];exact⟨_,_,_,J',rfl,rfl,HF.out.1,HF.out.2.1,HF.out.2.2⟩
end Go.Proofs.YthfmaclnccdcbaaGreatDoor
namespace PA
section
open Go
theorem lY {f:Fm} (h:kQ f=0):f.size≤96:=by
 unfold kQ Fm.valid at h;split at h
 ·cases h
 ·omega
theorem Aq:∀(f g:Fm),g∈f.dO→g.size≤f.size:=by
 intro f;refine Fm.ind (P:=fun f=>∀g,g∈f.dO→g.size≤f.size) (fun o n i k ih g hg=>?_) f;rw[Fm.dO] at hg;split at hg
 ·have key:∀(l:List Fm),(∀f∈l,∀g,g∈f.dO→g.size≤f.size)→g∈Fm.aZ l→g.size≤Fm.sizes l:=by
   intro l
   induction l with
   | nil=>intro _ h;simp[Fm.aZ] at h
   | cons x l ihl=>
    intro h1 h2;rw[Fm.aZ,List.mem_append] at h2;rw[Fm.sizes];rcases h2 with h2|h2
    ·have:=h1 x (List.mem_cons_self ..) g h2;omega
    ·have:=ihl (fun f hf=>h1 f (tY _ hf)) h2;omega
  have:=key k ih hg;rw[Fm.size];omega
 ·rw[vW hg];exact Nat.le_refl _
theorem lK (f:Fm):Fm.sizes f.parts≤f.size:=by
 obtain⟨o,n,i,k⟩:=f;unfold Fm.parts;split
 ·show Fm.sizes k≤_;rw[Fm.size];omega
 ·simp[Fm.sizes]
theorem JZ (a b:List Fm):Fm.sizes (a++b)=Fm.sizes a+Fm.sizes b:=by
 induction a with
 | nil=>simp[Fm.sizes]
 | cons g a ih=>rw[pV,Fm.sizes,Fm.sizes,ih];omega
theorem EL (a b:Fm):(fC a b).size≤a.size+b.size+1:=by
 unfold fC;rw[Fm.size,JZ];have:=lK a;have:=lK b;omega
theorem DW:∀{x t y:List Fm},eX x t=some y→∀f∈y,kQ f=0
 | [],t,y,h,f,hf=>by cases h;cases hf
 | a::x,t,y,h,f,hf=>by
  unfold eX at h;split at h
  ·rename_i hall
   cases hc:eX x t with
   | none=>rw[hc] at h;cases h
   | some z=>
    rw[hc] at h;cases h;rcases List.mem_append.1 hf with hf|hf
    ·obtain⟨b,hb,rfl⟩:=List.mem_map.1 hf
     have:=List.all_eq_true.1 hall b hb;simpa using this
    ·exact DW hc f hf
  ·cases h
theorem AU {of:Nat→Option (List Fm)} {own:List Fm}:∀{rs:List Int} {out y:List Fm},(∀f∈out,kQ f=0)→eH of own rs out=some y→∀f∈y,kQ f=0
 | [],out,y,h0,h=>by cases h;exact h0
 | r::rs,out,y,h0,h=>by
  unfold eH at h;split at h
  ·cases h
  ·split at h
   ·cases h
   ·split at h
    ·cases h
    ·rename_i z hz
     exact AU (fun f hf=>(List.mem_append.1 hf).elim (h0 f) (DW hz f)) h
theorem CG {l:List Cl} {k:Nat} {c:Cl} (h:l[k]?=some c):fU l k=tX (fun r=>if r<k then fU l r else none) c:=by
 rw[fU,h]
theorem GX {l:List Cl} (hok:qQ l=0) {k:Nat} {y:List Fm} (h:fU l k=some y):∀f∈y,f.size≤96:=by
 intro f hf;cases hc:l[k]? with
 | none=>rw[fU,hc] at h;cases h
 | some c=>
  rw[CG hc] at h;obtain⟨hk,hcl⟩:=qM hc;have hb:=((uG hok).2 k hk).2.2;rw[hcl] at hb;unfold tX at h;split at h
  ·split at h
   ·cases h
    have:=Aq c.body f hf;have:=lY hb;omega
   ·cases h
  ·exact lY (AU (fun f hf=>by cases hf) h f hf)
def Iq (t:List Fm) (a:Fm):Bool:=t.all fun b=>decide (kQ (fC a b)=0)
theorem AY:∀(x t:List Fm) (a:Fm),eX (x++[a]) t=match eX x t with|none=>none|some y=>if Iq t a=true then some (y++t.map (fC a)) else none
 | [],t,a=>by
  show eX [a] t=_;unfold eX Iq;split
  ·rename_i h;simp[eX]
  ·rfl
 | z::x,t,a=>by
  rw[pV];unfold eX;by_cases hz:(t.all fun b=>decide (kQ (fC z b)=0))=true
  ·rw[if_pos hz,if_pos hz,AY x t a]
   cases eX x t with
   | none=>rfl
   | some y=>
    simp only[Option.map_some];by_cases ha:Iq t a=true
    ·rw[if_pos ha,if_pos ha,Option.map_some,kZ]
    ·rw[if_neg ha,if_neg ha];rfl
  ·rw[if_neg hz,if_neg hz]
theorem AZ {x t:List Fm} {i:Nat} {a:Fm} (h:x[i]?=some a) {y:List Fm} (hy:eX (x.take i) t=some y) (hr:Iq t a=true):eX (x.take (i+1)) t=some (y++t.map (fC a)):=by
 obtain⟨hi,rfl⟩:=qM h;rw[List.take_succ_eq_append_getElem hi,AY,hy];simp only[hr,if_true]
theorem xE:∀{x t:List Fm} {a b:Fm},a∈x→b∈t→kQ (fC a b)≠0→eX x t=none
 | [],_,_,_,h,_,_=>by cases h
 | z::x,t,a,b,ha,hb,hn=>by
  unfold eX;rcases List.mem_cons.1 ha with rfl|ha
  ·rw[if_neg]
   intro hall;have:=List.all_eq_true.1 hall b hb;simp at this;exact hn this
  ·split
   ·rw[xE ha hb hn];rfl
   ·rfl
theorem N7 {t:List Fm} {a:Fm} (h:∀(i:Nat) (b:Fm),t[i]?=some b→kQ (fC a b)=0):Iq t a=true:=by
 unfold Iq;rw[List.all_eq_true];intro b hb;obtain⟨i,hi⟩:=List.mem_iff_getElem?.1 hb;simpa using h i b hi
theorem Dw {of:Nat→Option (List Fm)} {own out:List Fm} {rs:List Int} {j:Nat} {r:Int} (h:rs[j]?=some r):eH of own (rs.drop j) out=match of r.toNat with
 | none=>none
 | some x=>if 64<out.length+x.length*own.length then none else match eX x own with|none=>none|some y=>eH of own (rs.drop (j+1)) (out++y):=by
 obtain⟨hj,rfl⟩:=qM h;rw[List.drop_eq_getElem_cons hj,eH];rfl
theorem AP {of:Nat→Option (List Fm)} {own out:List Fm} {rs:List Int} {j:Nat} (h:rs.length≤j):eH of own (rs.drop j) out=some out:=by
 rw[List.drop_of_length_le h,eH]
end
section
open Go Go.RowKit
theorem Fm.Ox (l:List Fm) (i:Nat) {f:Fm} (h:l[i]?=some f):Fm.aZ (l.take (i+1))=Fm.aZ (l.take i)++f.dO:=by
 obtain⟨hi,rfl⟩:=qM h;exact Fm.FI l i hi
theorem Fm.Ov (l:List Fm) (i:Nat):Fm.aZ l=Fm.aZ (l.take i)++Fm.aZ (l.drop i):=by
 have key:∀a b:List Fm,Fm.aZ (a++b)=Fm.aZ a++Fm.aZ b:=by
  intro a b
  induction a with
  | nil=>rfl
  | cons g a ih=>rw[pV,Fm.aZ,Fm.aZ,ih,kZ]
 rw[←key,List.take_append_drop]
theorem Fm.Ug {k:List Fm} {g x:Fm} (hg:g∈k) (hx:x∈g.dO):x∈Fm.aZ k:=by
 induction k with
 | nil=>cases hg
 | cons f k ih=>
  rw[Fm.aZ];rcases List.mem_cons.1 hg with rfl|hg
  ·exact zC _ hx
  ·exact Bl _ (ih hg)
end
end PA
namespace Go.Proofs.YthfmaclnccdcbaaGreatDoor
open Go.RowKit PA
set_option maxRecDepth 100000
set_option maxHeartbeats 8000000
attribute [local go_sem] Oper.semAt_some
def jX (lp yb wb:Nat):aB:=sep (blk yb (.cells #[.func (.yield lp) #[] #[]] 185 (0,0))) (blk wb (.cells #[.func (.func 238) #[] #[.pointer (some ⟨yb,0,none⟩),.pointer (some ⟨wb,0,none⟩)]] 185 (0,0)))
theorem CZ {W w:World} {A:aB} {lp yb wb:Nat} (h:Sat W w (sep (jX lp yb wb) A)):w.cell? ⟨yb,0,none⟩=some (.func (.yield lp) #[] #[])∧w.cell? ⟨wb,0,none⟩=some (.func (.func 238) #[] #[.pointer (some ⟨yb,0,none⟩),.pointer (some ⟨wb,0,none⟩)]):=by
 unfold jX at h;rw[aj] at h;exact⟨h.cell 0,h.p1.cell 0⟩
def Dc (W:World) (I:Mem) (Pn:Fm→Prop) (R Z:List FV→aB) (lp yb wb N:Nat) (f:Fm):Prop:=
 ∀(p q:Int) (x1:Option Addr) (n1 c1:Nat) (x2:Option Addr) (n2 c2:Nat) (pre:List FV) (w:World) (A:aB),rF.rel I [.int .i64 p,.int .i64 q,.slice x1 n1 c1,.slice x2 n2 c2] f→(∀g∈f.dO,Pn g)→pre.length+f.size≤N →
  Sat W w (sep (R pre) (sep (jX lp yb wb) (sep (kn I) A))) →
  Calls Tryz.prog 238 #[.agg #[.int .i64 p,.int .i64 q,.slice x1 n1 c1,.slice x2 n2 c2],.pointer (some ⟨yb,0,none⟩),.pointer (some ⟨wb,0,none⟩)] w (GR W R Z pre f.dO (sep (jX lp yb wb) (sep (kn I) A)) true)
theorem top111 {W:World} {I:Mem} {Pn:Fm→Prop} {R Z:List FV→aB} {lp yb wb N:Nat} {f:Fm} (hD:Dc W I Pn R Z lp yb wb N f) (p q:Int) (x1:Option Addr) (n1 c1:Nat) (x2:Option Addr) (n2 c2:Nat) (pre:List FV) (w:World) (A:aB) (hr:rF.rel I [.int .i64 p,.int .i64 q,.slice x1 n1 c1,.slice x2 n2 c2] f) (hP:∀g∈f.dO,Pn g) (hN:pre.length+f.size≤N)
 (h:Sat W w (sep (R pre) (sep (jX lp yb wb) (sep (kn I) A)))):
 Calls Tryz.prog 239 #[.agg #[.int .i64 p,.int .i64 q,.slice x1 n1 c1,.slice x2 n2 c2],.pointer (some ⟨wb,0,none⟩)] w (GR W R Z pre f.dO (sep (jX lp yb wb) (sep (kn I) A)) false):=by
 have h1:=h.alloc (.cells #[.int .i64 p,.int .i64 q,.slice x1 n1 c1,.slice x2 n2 c2] 34);obtain⟨B,hB⟩:=aC (w.heap.size);obtain⟨w1,hw1⟩:=aC (w.alloc (.cells #[.int .i64 p,.int .i64 q,.slice x1 n1 c1,.slice x2 n2 c2] 34));rw[←hB,←hw1] at h1;obtain⟨k0,k1,k2,k3⟩:=lH h1;obtain⟨-,e1⟩:=CZ h1.p2;have hd:=hD p q x1 n1 c1 x2 n2 c2 pre w1 (sep (blk B (.cells #[.int .i64 p,.int .i64 q,.slice x1 n1 c1,.slice x2 n2 c2] 34 (0,0))) A) hr hP hN (by simpa only[aA,au,aj] using h1);have HD:=ah hd;have HB:=ah (aH hB hw1);clear h h1 hB hw1 hd hD hr hP hN;go_enter Tryz.func239,Tryz.ntmps239;go_upto_region 1 with fail;rw[←HB.out.1,←HB.out.2];go_wp2_with fail;refine HD.out.mono ?_;rintro e w2 (⟨rfl,xs,hx,h2⟩|⟨rfl,xs,rest,hx,hne,h2⟩)
 ·have H2:Hid (Sat W w2 (sep (R (pre++xs)) (sep (jX lp yb wb) (sep (kn I) A)))):=ah (by
   have h3:Sat W w2 (sep (blk B (.cells #[.int .i64 p,.int .i64 q,.slice x1 n1 c1,.slice x2 n2 c2] 34 (0,0))) (sep (R (pre++xs)) (sep (jX lp yb wb) (sep (kn I) A)))):=dI h2;exact h3.forget)
  have HX:=ah hx;clear h2 hx HD k0 k1 k2 k3 e1;go_wp2;go_ret;exact .inl ⟨rfl,xs,HX.out,H2.out⟩
 ·have H2:Hid (Sat W w2 (sep (Z (pre++xs)) (sep (jX lp yb wb) (sep (kn I) A)))):=ah (by
   have h3:Sat W w2 (sep (blk B (.cells #[.int .i64 p,.int .i64 q,.slice x1 n1 c1,.slice x2 n2 c2] 34 (0,0))) (sep (Z (pre++xs)) (sep (jX lp yb wb) (sep (kn I) A)))):=dI h2;exact h3.forget)
  have HX:=ah (aH hx hne);clear h2 hx hne HD k0 k1 k2 k3 e1;go_wp2;go_ret;exact .inr ⟨rfl,xs,rest,HX.out.1,HX.out.2,H2.out⟩
def Vu (W:World) (R Z:List FV→aB) (pre:List FV) (ys:List Fm) (B:aB) (e:Ending) (w':World):Prop:=
 (e=.returned (.int .i64 (-1))∧∃xs:List FV,xs.map (·.2)=ys∧Sat W w' (sep (R (pre++xs)) B))∨∃j:Nat,e=.returned (.int .i64 j)∧∃(xs:List FV) (rest:List Fm),xs.map (·.2)++rest=ys∧xs≠[]∧Sat W w' (sep (Z (pre++xs)) B)
theorem ZQ {W:World} {I:Mem} {Pn:Fm→Prop} {R Z:List FV→aB} {lp yb wb N:Nat} {k:List Fm} (hD:∀g∈k,Dc W I Pn R Z lp yb wb N g) (x2:Option Addr) (c2:Nat) (hk:(rF.slice 4).rel I [.slice x2 k.length c2] k) (hP:∀g∈Fm.aZ k,Pn g) (pre:List FV) (w:World) (A:aB) (hN:pre.length+Fm.sizes k≤N)
 (h:Sat W w (sep (R pre) (sep (jX lp yb wb) (sep (kn I) A)))):
 Calls Tryz.prog 202 #[.slice x2 k.length c2,.func (.func 239) #[] #[.pointer (some ⟨wb,0,none⟩)]] w (Vu W R Z pre (Fm.aZ k) (sep (jX lp yb wb) (sep (kn I) A))):=by
 obtain⟨n,hn⟩:=aC (k.length);obtain⟨Po,dS⟩:=aC (Vu W R Z pre (Fm.aZ k) (sep (jX lp yb wb) (sep (kn I) A)));rw[←dS];have hl63:=(aJ hk).2.2;rw[←hn] at hk hl63 ⊢;have bK:=ah dS;have HN:=ah (aH hn hN);have HPN:=ah hP;have HK:=ah hk;have HD:=ah hD;have H:=ah h;clear hn dS hk h hD hN hP;go_enter Tryz.func202,Tryz.ntmps202;go_wp2;go_loopw [8] (fun iv wr=>∃(i:Nat) (xs:List FV),iv=.int .i64 i∧i≤n∧Hid (xs.map (·.2)=Fm.aZ (k.take i))∧Sat W wr (sep (R (pre++xs)) (sep (jX lp yb wb) (sep (kn I) A)))) (fun iv _=>n-(intOf iv).toNat)
 case atStart=>exact⟨0,[],rfl,by omega,ah (by simp[Fm.aZ]),by rw[List.append_nil];exact H.out⟩
 case round=>
  obtain⟨i,xs,rfl,hi,wL,hS⟩:=hrel;clear H;by_cases hlt:i<n
  ·as_aux_lemma=>
   have hltz:(i:Int)<(n:Int):=by omega
   obtain⟨g,hg⟩:∃g,k[i]?=some g:=⟨_,iM (by have:=HN.out.1;omega)⟩
   obtain⟨b,o,p',q',y1,m1,d1,y2,m2,d2,rfl,hgr,hcell⟩:=gY HK.out hg;have hmem:g∈k:=mZ hg;obtain⟨j0,j1,j2,j3⟩:=hcell wr hS.p2.ext;have htk:=Fm.Ox k i hg;have hsz:(pre++xs).length+g.size≤N:=by
    have h1:xs.length=(Fm.aZ (k.take i)).length:=by rw[←wL.out,List.length_map]
    have h2:=Fm.rO (k.take i);have h3:=Fm.rH k (i+1);rw[Fm.FB k i hg] at h3;have:=HN.out.2;rw[dM];omega
   have hc:=top111 (HD.out g hmem) p' q' y1 m1 d1 y2 m2 d2 (pre++xs) wr A hgr (fun z hz=>HPN.out z (Fm.Ug hmem hz)) hsz hS;have HC:=ah hc;have HT:=ah (aH htk (aH hlt hg));clear hgr hcell hmem htk hsz hc hg hlt hi hS;go_wp2_with fail;refine HC.out.mono ?_;rintro e w2 (⟨rfl,ys,hy,h2⟩|⟨rfl,ys,rest,hy,hne,h2⟩)
   ·have H2:=ah h2
    have HY:Hid ((xs++ys).map (·.2)=Fm.aZ (k.take (i+1))):=ah (by rw[qy,wL.out,hy,HT.out.1]);clear h2 hy HC j0 j1 j2 j3;go_wp2;go_roundw;case rel=>exact⟨i+1,xs++ys,by go_num,by have:=HT.out.2.1;omega,HY,by rw[←kZ];exact H2.out⟩
    case measure=>simp[intOf];have:=HT.out.2.1;omega
   ·have H2:=ah h2
    have HY:Hid ((xs++ys).map (·.2)++(rest++Fm.aZ (k.drop (i+1)))=Fm.aZ k∧xs++ys≠[]):=ah ⟨by
     rw[qy,wL.out,Fm.Ov k (i+1),HT.out.1,←hy];simp only[kZ],fun e=>hne (List.append_eq_nil_iff.1 e).2⟩
    clear h2 hy hne HC j0 j1 j2 j3;go_wp2;rw[bK.out];exact .inr ⟨i,rfl,xs++ys,_,HY.out.1,HY.out.2,by rw[←kZ];exact H2.out⟩
  ·obtain rfl:i=n:=by omega
   have hx:xs.map (·.2)=Fm.aZ k:=by rw[wL.out,List.take_of_length_le (by rw[←HN.out.1];exact Nat.le_refl _)]
   have HX:=ah (aH hx hS);clear hx hS hlt hi;go_wp2;rw[bK.out];exact .inl ⟨rfl,xs,HX.out.1,HX.out.2⟩
theorem tcontF {W:World} {I:Mem} {Pn:Fm→Prop} {R Z:List FV→aB} {lp yb wb N:Nat} {k:List Fm} (hD:∀g∈k,Dc W I Pn R Z lp yb wb N g) (x2:Option Addr) (c2:Nat) (hk:(rF.slice 4).rel I [.slice x2 k.length c2] k) (hP:∀g∈Fm.aZ k,Pn g) (pre:List FV) (w:World) (A:aB) (hN:pre.length+Fm.sizes k≤N)
 (h:Sat W w (sep (R pre) (sep (jX lp yb wb) (sep (kn I) A)))):
 Calls Tryz.prog 174 #[.slice x2 k.length c2,.func (.func 239) #[] #[.pointer (some ⟨wb,0,none⟩)]] w (GR W R Z pre (Fm.aZ k) (sep (jX lp yb wb) (sep (kn I) A)) false):=by
 have HI:=ah (ZQ hD x2 c2 hk hP pre w A hN h);obtain⟨n,hn⟩:=aC (k.length);rw[←hn] at HI ⊢;clear hn hk h hD hN hP;go_enter Tryz.func174,Tryz.ntmps174;go_wp2_with fail;refine HI.out.mono ?_;rintro e w2 (⟨rfl,xs,hx,h2⟩|⟨j,rfl,xs,rest,hx,hne,h2⟩)
 ·have H2:=ah (aH hx h2)
  clear hx h2 HI;go_wp2;go_ret;exact .inl ⟨rfl,xs,H2.out.1,H2.out.2⟩
 ·have H2:=ah (aH hx (aH hne h2))
  have hj:(0:Int)≤(j:Int):=by omega
  clear hx hne h2 HI;go_wp2;go_ret;exact .inr ⟨by simp,xs,rest,H2.out.1,H2.out.2.1,H2.out.2.2⟩
theorem top11 {W:World} {I:Mem} {Pn:Fm→Prop} {R Z:List FV→aB} {lp yb wb N:Nat} (hY:∀m,xA Fence.wide m Tryz.prog W lp su (Gu I Pn) N R Z) (o n:Int) (i:List Iv) (k:List Fm) (hD:∀g∈k,Dc W I Pn R Z lp yb wb N g):
 Dc W I Pn R Z lp yb wb N (.mk o n i k):=by
 intro p q x1 n1 c1 x2 n2 c2 pre w A hr hP hN h;obtain⟨x1',c1',x2',c2',e,hi,hk⟩:=dW.1 hr;simp only[List.cons.injEq,Value.int.injEq,Value.slice.injEq,true_and,and_true] at e;obtain⟨rfl,rfl,⟨rfl,rfl,rfl⟩,⟨rfl,rfl,rfl⟩⟩:=e;refine (callsIn_wide (n:=5)).1 ?_;have h1:=h.alloc (.cells #[.int .i64 p,.int .i64 q,.slice x1 i.length c1,.slice x2 k.length c2] 34);obtain⟨B,hB⟩:=aC (w.heap.size);obtain⟨w1,hw1⟩:=aC (w.alloc (.cells #[.int .i64 p,.int .i64 q,.slice x1 i.length c1,.slice x2 k.length c2] 34));rw[←hB,←hw1] at h1;obtain⟨nk,hnk⟩:=aC (k.length);obtain⟨ni,hni⟩:=aC (i.length);have hmf:∀(fn:Fn) (first cap:Array Value) (w:World),(Instr.makeFunc fn first cap).run Tryz.prog w=.ok (.func fn first cap) w:=fun _ _ _ _=>rfl
 by_cases h5:p=5
 ·have hno:(Fm.mk p q i k).dO=Fm.aZ k:=by rw[Fm.dO,if_pos h5]
  have Zi:pre.length+Fm.sizes k≤N:=by rw[Fm.size] at hN;omega
  have hPk:∀g∈Fm.aZ k,Pn g:=fun g hg=>hP g (by rw[hno];exact hg)
  rw[hno];obtain⟨nds,WC⟩:=aC (Fm.aZ k);have h2:Sat W w1 (sep (R pre) (sep (jX lp yb wb) (sep (kn I) (sep (blk B (.cells #[.int .i64 p,.int .i64 q,.slice x1 i.length c1,.slice x2 k.length c2] 34 (0,0))) A)))):=dI h1;have hFC:=tcontF hD x2 c2 hk hPk pre w1 _ Zi h2;obtain⟨k0,k1,k2,k3⟩:=lH h1;obtain⟨e0,e1⟩:=CZ h2.p1;rw[←hni,←hnk] at hFC ⊢;rw[←hni] at k2;rw[←hnk] at k3;rw[←WC] at hFC ⊢;have HB:Hid (B=w.heap.size∧w1=w.alloc (.cells #[.int .i64 p,.int .i64 q,.slice x1 ni c1,.slice x2 nk c2] 34)):=ah ⟨hB,by rw[hw1,hni,hnk]⟩;have HFC:=ah hFC;have h5n:(p !=5)=false:=by simp[h5]
  have h5e:(p==5)=true:=by simp[h5]
  clear hr hi hk hN h h1 h2 hB hw1 hnk hni hY hD Zi hFC WC hP hPk hno h5;refine callsIn_of_wp (n:=5) Tryz.func238 rfl trivial ?_ rfl;simp only[Tryz.ntmps238,List.size_toArray,oP,List.length_nil,Nat.reduceAdd,Nat.reduceSub,Array.replicate_succ,Array.replicate_zero,List.push_toArray,List.append_toArray,tK,pV];gi_upto_region 1 with fail;rw[←HB.out.1,←HB.out.2];gi_wp2_with fail;refine⟨trivial,(callsIn_wide.2 HFC.out).mono ?_⟩;rintro e w2 (⟨rfl,xs,hxs,h2⟩|⟨rfl,xs,rest,hxs,hne,h2⟩)
  ·have H2:Hid (Sat W w2 (sep (R (pre++xs)) (sep (jX lp yb wb) (sep (kn I) A)))):=ah (by
    have h3:Sat W w2 (sep (blk B (.cells #[.int .i64 p,.int .i64 q,.slice x1 ni c1,.slice x2 nk c2] 34 (0,0))) (sep (R (pre++xs)) (sep (jX lp yb wb) (sep (kn I) A)))):=dI h2;exact h3.forget)
   have wL:=ah hxs;clear h2 hxs HFC k0 k1 k2 k3 e0 e1;gi_wp2_with fail;refine bodyPost_ret (results_tmp rfl _ _ _) rfl (.inl ⟨rfl,_,wL.out,H2.out⟩)
  ·have H2:Hid (Sat W w2 (sep (Z (pre++xs)) (sep (jX lp yb wb) (sep (kn I) A)))):=ah (by
    have h3:Sat W w2 (sep (blk B (.cells #[.int .i64 p,.int .i64 q,.slice x1 ni c1,.slice x2 nk c2] 34 (0,0))) (sep (Z (pre++xs)) (sep (jX lp yb wb) (sep (kn I) A)))):=dI h2;exact h3.forget)
   have wL:=ah (aH hxs hne);clear h2 hxs hne HFC k0 k1 k2 k3 e0 e1;gi_wp2_with fail;refine bodyPost_ret (results_tmp rfl _ _ _) rfl (.inr ⟨rfl,_,rest,wL.out.1,wL.out.2,H2.out⟩)
 ·have hno:(Fm.mk p q i k).dO=[Fm.mk p q i k]:=by rw[Fm.dO,if_neg h5]
  have hN1:pre.length<N:=by rw[Fm.size] at hN;omega
  have hP0:Pn (Fm.mk p q i k):=hP _ (by rw[hno];exact List.mem_cons_self ..);obtain⟨xv,hxv⟩:∃z:FV,z=([.int .i64 p,.int .i64 q,.slice x1 i.length c1,.slice x2 k.length c2],Fm.mk p q i k):=⟨_,rfl⟩
  have hx:Sat W w1 (sep (R pre) (sep (Gu I Pn xv) (sep (blk B (.cells #[.int .i64 p,.int .i64 q,.slice x1 i.length c1,.slice x2 k.length c2] 34 (0,0))) (sep (jX lp yb wb) (sep (kn I) A))))):=by
   have h2:Sat W w1 (sep (Gu I Pn xv) (sep (R pre) (sep (blk B (.cells #[.int .i64 p,.int .i64 q,.slice x1 i.length c1,.slice x2 k.length c2] 34 (0,0))) (sep (jX lp yb wb) (sep (kn I) A))))):=Sat.fact.2 ⟨by rw[hxv];exact⟨hr,hP0⟩,by simpa only[aA,au,aj] using h1⟩;simpa only[aA,au,aj] using h2
  have hy0:=hY 5 pre xv w1 _ hN1 hx;have hx2:xv.2=Fm.mk p q i k:=by rw[hxv]
  have hxe:su xv=#[.agg #[.int .i64 p,.int .i64 q,.slice x1 i.length c1,.slice x2 k.length c2]]:=by rw[hxv];rfl
  rw[hno];rw[←hni,←hnk] at hy0 hx hxe ⊢;rw[hxe] at hy0;obtain⟨k0,k1,k2,k3⟩:=lH hx.p2;obtain⟨e0,e1⟩:=CZ hx.p3;have HB:Hid (B=w.heap.size∧w1=w.alloc (.cells #[.int .i64 p,.int .i64 q,.slice x1 ni c1,.slice x2 nk c2] 34)):=ah ⟨hB,by rw[hw1,hni,hnk]⟩;have QZ:=ah hx2;have h5n:(p !=5)=true:=by simpa using h5
  have h5e:(p==5)=false:=by simpa using h5
  obtain⟨f0,hf0⟩:=aC (Fm.mk p q i k);rw[←hf0] at QZ ⊢;clear hr hi hk hN h h1 hB hw1 hnk hni hxv hx hno hx2 hxe hY hD hN1 hf0 hP hP0 h5;refine callsIn_of_wp (n:=5) Tryz.func238 rfl trivial ?_ rfl;simp only[Tryz.ntmps238,List.size_toArray,oP,List.length_nil,Nat.reduceAdd,Nat.reduceSub,Array.replicate_succ,Array.replicate_zero,List.push_toArray,List.append_toArray,tK,pV];gi_upto_region 1 with fail;rw[←HB.out.1,←HB.out.2];obtain⟨fn,tmps,assign,body,hy,hR⟩:=hy0;gi_wp2_with fail;refine (sS hR).mono ?_;rintro e wz (⟨rfl,hz⟩|⟨rfl,hz⟩)
  ·have H2:Hid (Sat W wz (sep (R (pre++[xv])) (sep (jX lp yb wb) (sep (kn I) A)))):=ah (by
    have h3:Sat W wz (sep (blk B (.cells #[.int .i64 p,.int .i64 q,.slice x1 ni c1,.slice x2 nk c2] 34 (0,0))) (sep (R (pre++[xv])) (sep (jX lp yb wb) (sep (kn I) A)))):=dI hz;exact h3.forget)
   clear hR hy hz k0 k1 k2 k3 e0 e1;gi_wp2_with fail;refine bodyPost_ret (results_tmp rfl _ _ _) rfl (.inl ⟨rfl,[xv],by rw[List.map_singleton,QZ.out],H2.out⟩)
  ·have H2:Hid (Sat W wz (sep (Z (pre++[xv])) (sep (jX lp yb wb) (sep (kn I) A)))):=ah (by
    have h3:Sat W wz (sep (blk B (.cells #[.int .i64 p,.int .i64 q,.slice x1 ni c1,.slice x2 nk c2] 34 (0,0))) (sep (Z (pre++[xv])) (sep (jX lp yb wb) (sep (kn I) A)))):=dI hz;exact h3.forget)
   clear hR hy hz k0 k1 k2 k3 e0 e1;gi_wp2_with fail;refine bodyPost_ret (results_tmp rfl _ _ _) rfl (.inr ⟨rfl,[xv],[],by rw[List.map_singleton,QZ.out,List.append_nil],by simp,H2.out⟩)
theorem ZR {W:World} {I:Mem} {Pn:Fm→Prop} {R Z:List FV→aB} {lp yb wb N:Nat} (hY:∀m,xA Fence.wide m Tryz.prog W lp su (Gu I Pn) N R Z) (f:Fm):Dc W I Pn R Z lp yb wb N f:=
 Fm.ind (P:=fun f=>Dc W I Pn R Z lp yb wb N f) (fun o n i k ih=>top11 hY o n i k ih) f
theorem Ou {W:World} {A:aB} {I:Mem} (Pn:Fm→Prop) (n:Nat) (f:Fm) (p q:Int) (x1:Option Addr) (n1 c1:Nat) (x2:Option Addr) (n2 c2:Nat) (hr:rF.rel I [.int .i64 p,.int .i64 q,.slice x1 n1 c1,.slice x2 n2 c2] f) (hP:∀g∈f.dO,Pn g) (hsz:f.size≤qI) (fb:Nat):
 Dh Fence.wide n Tryz.prog W 237 #[.pointer (some ⟨fb,0,none⟩)] su (Gu I Pn) qI (fun xs=>xs.map (·.2)=f.dO) (fun xs=>xs≠[]∧∃rest,xs.map (·.2)++rest=f.dO)
  (sep (blk fb (.cells #[.int .i64 p,.int .i64 q,.slice x1 n1 c1,.slice x2 n2 c2] 34 (0,0))) (sep (kn I) A)) (sep (kn I) A):=by
 intro lp R Z w hY h0;have hY':∀m,xA Fence.wide m Tryz.prog W lp su (Gu I Pn) qI R Z:=fun m pre x w B h1 h2=>zA (hY pre x w B h1 h2)
 obtain⟨y,hy⟩:=aC (w.heap.size);obtain⟨w1,hw1⟩:=aC ((w.alloc (.cells #[.func (.yield lp) #[] #[]] 185)).alloc (.cells #[.func (.func 238) #[] #[.pointer (some ⟨y,0,none⟩),.pointer (some ⟨y+1,0,none⟩)]] 185));have h1:Sat W w1 (sep (R []) (sep (jX lp y (y+1)) (sep (kn I) (sep (blk fb (.cells #[.int .i64 p,.int .i64 q,.slice x1 n1 c1,.slice x2 n2 c2] 34 (0,0))) A)))):=by
  have h2:=(h0.alloc (.cells #[.func (.yield lp) #[] #[]] 185)).alloc (.cells #[.func (.func 238) #[] #[.pointer (some ⟨y,0,none⟩),.pointer (some ⟨y+1,0,none⟩)]] 185);rw[World.size_alloc,←hy,←hw1] at h2;unfold jX;simpa only[aA,au,aj] using h2
 have hwk:=ZR hY' f p q x1 n1 c1 x2 n2 c2 [] w1 _ hr hP (by rw[List.length_nil];omega) h1;obtain⟨e0,e1⟩:=CZ h1.p1;obtain⟨k0,k1,k2,k3⟩:=lH h1.p3;have HWK:=ah hwk;have HY:=ah (aH hy hw1);have hmf:∀(fn:Fn) (first cap:Array Value) (w:World),(Instr.makeFunc fn first cap).run Tryz.prog w=.ok (.func fn first cap) w:=fun _ _ _ _=>rfl
 clear hY hY' h0 h1 hwk hy hw1 hr hsz hP;refine callsIn_of_wp Tryz.func237 rfl trivial ?_ rfl;simp only[Tryz.ntmps237,List.size_toArray,oP,List.length_nil,Nat.reduceAdd,Nat.reduceSub,Array.replicate_succ,Array.replicate_zero,List.push_toArray,List.append_toArray,tK,pV];gi_upto_region 3 with fail;rw[←HY.out.1,←HY.out.2];gi_wp2_with fail;refine⟨trivial,fun hd=>(by cases hd),(callsIn_wide.2 HWK.out).mono ?_⟩;rintro e w2 (⟨rfl,xs,hx,h2⟩|⟨rfl,xs,rest,hx,hne,h2⟩)
 ·have H2:Hid (Sat W w2 (sep (R xs) (sep (kn I) A))):=ah (by
   rw[tK] at h2;unfold jX at h2;simp only[aj] at h2;have h3:Sat W w2 (sep (blk y (.cells #[.func (.yield lp) #[] #[]] 185 (0,0))) (sep (blk (y+1) (.cells #[.func (.func 238) #[] #[.pointer (some ⟨y,0,none⟩),.pointer (some ⟨y+1,0,none⟩)]] 185 (0,0))) (sep (blk fb (.cells #[.int .i64 p,.int .i64 q,.slice x1 n1 c1,.slice x2 n2 c2] 34 (0,0))) (sep (R xs) (sep (kn I) A))))):=dI h2;exact h3.forget.forget.forget)
  have HX:=ah hx;clear HWK e0 e1 k0 k1 k2 k3 h2 hx;gi_wp2_with fail;exact bodyPost_end (results_none rfl _ _ _) rfl ⟨⟨_,rfl⟩,.inl ⟨xs,HX.out,H2.out⟩⟩
 ·have H2:Hid (Sat W w2 (sep (Z xs) (sep (kn I) A))):=ah (by
   rw[tK] at h2;unfold jX at h2;simp only[aj] at h2;have h3:Sat W w2 (sep (blk y (.cells #[.func (.yield lp) #[] #[]] 185 (0,0))) (sep (blk (y+1) (.cells #[.func (.func 238) #[] #[.pointer (some ⟨y,0,none⟩),.pointer (some ⟨y+1,0,none⟩)]] 185 (0,0))) (sep (blk fb (.cells #[.int .i64 p,.int .i64 q,.slice x1 n1 c1,.slice x2 n2 c2] 34 (0,0))) (sep (Z xs) (sep (kn I) A))))):=dI h2;exact h3.forget.forget.forget)
  have HX:Hid (xs≠[]∧∃rest,xs.map (·.2)++rest=f.dO):=ah ⟨hne,rest,hx⟩;clear HWK e0 e1 k0 k1 k2 k3 h2 hx hne;gi_wp2_with fail;exact bodyPost_end (results_none rfl _ _ _) rfl ⟨⟨_,rfl⟩,.inr ⟨xs,HX.out,H2.out⟩⟩
theorem PL {W w:World} {A:aB} (a b c d:Value) (h:Sat W w A):
 Calls Tryz.prog 230 #[.agg #[a,b,c,d]] w fun e w'=>∃fb,e=.returned (.func (.func 237) #[] #[.pointer (some ⟨fb,0,none⟩)])∧Sat W w' (sep (blk fb (.cells #[a,b,c,d] 34 (0,0))) A):=by
 have h1:=h.alloc (.cells #[a,b,c,d] 34);obtain⟨B,hB⟩:=aC (w.heap.size);obtain⟨w1,hw1⟩:=aC (w.alloc (.cells #[a,b,c,d] 34));rw[←hB,←hw1] at h1;have HB:=ah (aH hB hw1);have hmf:∀(fn:Fn) (first cap:Array Value) (w:World),(Instr.makeFunc fn first cap).run Tryz.prog w=.ok (.func fn first cap) w:=fun _ _ _ _=>rfl
 clear h hB hw1;go_enter Tryz.func230,Tryz.ntmps230;go_upto_region 1 with fail;rw[←HB.out.1,←HB.out.2];go_wp2;go_ret;exact⟨B,rfl,h1⟩
end Go.Proofs.YthfmaclnccdcbaaGreatDoor
namespace PA
open Go Go.RowKit
theorem Ky {P:Program} {w:World} {ops:Array Oper} {rest:List Oper} {o:Oper} {ac:Act} {Q:Exit→Act→World→Prop} (hgd:o.guard=none) (s y:Operand) (t t2:TypeId)
 (ho:o.op=.call { callee:=.builtin .append,args:=#[s,y],argTypes:=#[t,t2] }) {v:Value} {w':World} (hr:(Builtin.append_ #[t,t2] o.type #[ac.eval s,ac.eval y]).run P w=.ok v w') (hK:wpList P ops Q rest (ac.put o.dst v) w'):wpList P ops Q (o::rest) ac w:=
 wpList_plain hgd fun _ hk=>Au (qg s y t t2 ho hr) (hk _ _ hK)
theorem Sat.Uo {W w:World} {A:aB} (h:Sat W w A) (E n:Nat) (z:Value) (hz:z.cells.size=4) (hn:n≤maxLen):
 ∃c,n≤c∧c=grownCap w n 0 E∧Sat W (w.drew.alloc (.cells (Builtin.zeroCells z.cells n++Builtin.zeroCells z.cells (grownCap w n 0 E-n)) E)) (sep (aT E 4 (some ⟨w.heap.size,0,none⟩) 0 c []) A):=by
 have hcap:=lZ w n 0 E hn;refine⟨_,hcap.1,rfl,(h.drew.alloc _).lJ 0 _ 4 [] rfl (by omega) hcap.2 ?_ rfl⟩;simp only[Array.size_append,jh,hz];rw[←Nat.add_mul];congr 1;omega
end PA
namespace Go.Proofs.YthfmaclnccdcbaaGreatDoor
open Go.RowKit PA
set_option maxRecDepth 100000
set_option maxHeartbeats 4000000
attribute [local go_sem ↓] iF
attribute [local go_sem] DN
theorem Bh {W w:World} {A:aB} {I:Mem} (f:Fm) (p q:Int) (x1:Option Addr) (n1 c1:Nat) (x2:Option Addr) (n2 c2:Nat) (hr:rF.rel I [.int .i64 p,.int .i64 q,.slice x1 n1 c1,.slice x2 n2 c2] f) (h:Sat W w (sep (kn I) A)):
 Calls Tryz.prog 232 #[.agg #[.int .i64 p,.int .i64 q,.slice x1 n1 c1,.slice x2 n2 c2]] w fun e w'=>∃(a:Option Addr) (n c:Nat) (J:Mem),e=.returned (.slice a n c)∧n=f.parts.length∧Mem.le I J∧(rF.slice 4).rel J [.slice a n c] f.parts∧Sat W w' (sep (kn J) A):=by
 obtain⟨o,n,i,k⟩:=f;have hr0:=hr;obtain⟨x1',c1',x2',c2',e,hi,hk⟩:=dW.1 hr;simp only[List.cons.injEq,Value.int.injEq,Value.slice.injEq,true_and,and_true] at e;obtain⟨rfl,rfl,⟨rfl,rfl,rfl⟩,⟨rfl,rfl,rfl⟩⟩:=e;have h1:=h.alloc (.cells #[.int .i64 p,.int .i64 q,.slice x1 i.length c1,.slice x2 k.length c2] 34);obtain⟨nk,hnk⟩:=aC (k.length);obtain⟨ni,hni⟩:=aC (i.length);rw[←hnk,←hni] at hr0;rw[←hnk] at hk h1 ⊢;rw[←hni] at h1 ⊢;obtain⟨B,hB⟩:=aC (w.heap.size);obtain⟨w1,hw1⟩:=aC (w.alloc (.cells #[.int .i64 p,.int .i64 q,.slice x1 ni c1,.slice x2 nk c2] 34));rw[←hB,←hw1] at h1;have HB:=ah (aH hB hw1);have H1:=ah h1;obtain⟨k0,k1,k2,k3⟩:=lH h1;have HR:=ah (aH hr0 (aH hk hnk));clear hr hr0 h hi hk h1 hB hw1 hnk hni;by_cases o4:p=4
 ·subst o4
  have Dn:Hid ((Fm.mk 4 q i k).parts=k):=ah (show (if (4:Int)=4 then k else [Fm.mk 4 q i k])=k from if_pos rfl);go_enter Tryz.func232,Tryz.ntmps232;go_upto_region 1 with fail;rw[←HB.out.1,←HB.out.2];go_wp2;go_ret;rw[Dn.out];exact⟨_,_,_,I,rfl,HR.out.2.2,bW _,HR.out.2.1,H1.out.drop⟩
 ·have Dn:Hid ((Fm.mk p q i k).parts=[Fm.mk p q i k]):=ah (show (if p=4 then k else [Fm.mk p q i k])=[Fm.mk p q i k] from if_neg o4)
  have o4':(p==4)=false:=by simpa using o4
  obtain⟨J',hle',hr',h6⟩:=wJ (R:=rF) (k:=4) (show Sat W w1 (sep (kn I) (sep (blk B (.cells #[.int .i64 p,.int .i64 q,.slice x1 ni c1,.slice x2 nk c2] 34 (0,0))) A)) from H1.out.p1) [.int .i64 p,.int .i64 q,.slice x1 ni c1,.slice x2 nk c2] [Fm.mk p q i k] 34 (jg HR.out.1 rfl) (by simp[maxLen]);have HF:=ah (aH hle' (aH hr' h6.p1.drop));clear hle' hr' h6 o4;go_enter Tryz.func232,Tryz.ntmps232;go_upto_region 1 with fail;rw[←HB.out.1,←HB.out.2];go_wp2;go_ret;rw[Dn.out];exact⟨_,_,_,J',rfl,rfl,HF.out.1,HF.out.2.1,HF.out.2.2⟩
theorem PK {W w:World} {A:aB} (n:Nat) (hn:n≤1000000) (h:Sat W w A):
 Calls Tryz.prog 240 #[.slice none 0 0,.int .i64 (n:Nat)] w fun e w'=>∃a c,e=.returned (.slice a 0 c)∧Sat W w' (sep (aT 34 4 a 0 c []) A):=by
 obtain⟨i,hi1,hi2,hi3,hi4⟩:=info_parts iQ;by_cases h0:n=0
 ·subst h0
  have H:=ah (h.fV 34 4);clear h;go_enter Tryz.func240,Tryz.ntmps240;go_wp2;go_ret;exact⟨none,0,rfl,H.out⟩
 ·obtain⟨c,hc,hcc,h1⟩:=h.Uo 34 n (.agg #[.int .i64 0,.int .i64 0,.slice none 0 0,.slice none 0 0]) rfl (by unfold maxLen;omega)
  have happ:=Lib.run_append_nil_zeros (P:=Tryz.prog) w 27 3 27 34 i _ .i64 .i64 Tryz.underlying27 Tryz.underlying3 hi1 hi2 n (by omega) (by rw[hi3];decide) (by omega) (by rw[hi4];omega);rw[←hcc] at happ h1;have hnz:¬((n:Int)<0):=by omega
  have hnp:(0:Int)<(n:Int):=by omega
  have hnw:IntKind.i64.wrap (n:Int)=(n:Int):=IntWalk.i64_in _ (by omega);have H1:=ah h1;have HA:=ah happ;clear h1 happ h hcc hi1 hi2 hi3 hi4;go_enter Tryz.func240,Tryz.ntmps240;go_wp2_with (at_builtin;go_loud (refine Ky rfl _ _ 27 3 rfl HA.out ?_))
  go_ret;exact⟨_,c,rfl,H1.out⟩
def Y3 (k:Nat) (x y:List Fm):List Fm:=if k=0 then [] else if k=1 then x else x++y
def QI (k a b:Nat):Nat:=if k=0 then 0 else if k=1 then a else a+b
theorem Ji {W w:World} {A:aB} {I:Mem} (g:Nat) (a1:Option Addr) (n1 c1:Nat) (a2:Option Addr) (n2 c2:Nat) (l1 l2:List Fm) (h1:(rF.slice 4).rel I [.slice a1 n1 c1] l1) (h2:(rF.slice 4).rel I [.slice a2 n2 c2] l2) (hb:n1+n2≤1000000)
 (hg:∀w',Ext I w'→w'.cell? ⟨g,0,none⟩=some (.slice a1 n1 c1)∧w'.cell? ⟨g,1,none⟩=some (.slice a2 n2 c2)) (h:Sat W w (sep (kn I) A)):
 Calls Tryz.prog 231 #[.slice (some ⟨g,0,none⟩) 2 2] w fun e w'=>∃a m c vs,e=.returned (.slice a m c)∧m=n1+n2∧(rF.rows 4).rel I vs (l1++l2)∧Sat W w' (sep (aT 34 4 a m c vs) (sep (kn I) A)):=by
 obtain⟨us1,ul1,uz1,uo1,ur1,aaR⟩:=lU h1;obtain⟨us2,ul2,uz2,uo2,ur2,aaS⟩:=lU h2;have HU1:=ah (aH ul1 (aH uz1 (aH uo1 (aH ur1 aaR))));have HU2:=ah (aH ul2 (aH uz2 (aH uo2 (aH ur2 aaS))));have h11:n1≤1000000:=by omega
 have h12:n2≤1000000:=by omega
 have HG:=ah (fun w' A' (h':Sat W w' A')=>PK (W:=W) (w:=w') (A:=A') (n1+n2) hb h');have H:=ah h;have HGC:=ah hg;have vw:=ah hb;clear ul1 uz1 uo1 ur1 aaR ul2 uz2 uo2 ur2 aaS h1 h2 h hb hg;go_enter Tryz.func231,Tryz.ntmps231;go_wp2_with fail;go_loopw [3,11] (fun sv iv wr=>∃(k:Nat),sv=.int .i64 (QI k n1 n2:Nat)∧iv=.int .i64 k∧k≤2∧Sat W wr (sep (kn I) A)) (fun _ iv _=>2-(intOf iv).toNat)
 case atStart=>exact⟨0,rfl,rfl,by omega,H.out⟩
 case round=>
  obtain⟨k,rfl,rfl,hk,hS⟩:=hrel;obtain⟨k0,k1⟩:=HGC.out wr hS.ext;have HS:=ah hS;clear hS H;rcases (show k=0∨k=1∨k=2 by omega) with rfl|rfl|rfl
  ·simp only[QI,if_true]
   have hz:¬((n1:Int)<0):=by omega
   go_wp2;go_roundw;case rel=>exact⟨1,by simp,by go_num,by omega,HS.out⟩
   case measure=>simp[intOf]
  ·simp only[QI,if_neg (show ¬(1:Nat)=0 by omega),if_true]
   have hz:¬((n1:Int)+(n2:Int)<0):=by omega
   have hw:IntKind.i64.wrap ((n1:Int)+(n2:Int))=(n1:Int)+(n2:Int):=IntWalk.i64_in _ (by omega);go_wp2;go_roundw;case rel=>exact⟨2,by simp,by go_num,by omega,HS.out⟩
   case measure=>simp[intOf]
  ·have e:QI 2 n1 n2=n1+n2:=rfl
   rw[e];go_wp2_with fail;refine (HG.out _ _ HS.out).mono ?_;rintro e w2 ⟨a0,c0,rfl,h2⟩;have H2:=ah h2;clear h2 HS HG k0 k1;go_upto_block 2 with fail;go_wp2_with fail;go_loopw [6,27] (fun ov iv wr=>∃(k m c:Nat) (b:Option Addr) (vs:List Value),ov=.slice b m c∧iv=.int .i64 k∧k≤2∧Hid (m=QI k n1 n2∧(rF.rows 4).rel I vs (Y3 k l1 l2))∧Sat W wr (sep (aT 34 4 b m c vs) (sep (kn I) A))) (fun _ iv _=>2-(intOf iv).toNat)
   case atStart=>exact⟨0,0,c0,a0,[],rfl,rfl,by omega,ah ⟨rfl,lN _ _ _⟩,H2.out⟩
   case round=>
    obtain⟨k,m,c,b,vs,rfl,rfl,hk,HV,hS⟩:=hrel;clear H2;obtain⟨k0,k1⟩:=HGC.out wr hS.p1.ext;have HS:=ah hS;rcases (show k=0∨k=1∨k=2 by omega) with rfl|rfl|rfl
    ·have hm:m=0:=HV.out.1
     have hsrc:=HU1.out.2.2.2.2 wr hS.p1.ext;have oD:=ah hsrc;have HM:=ah hm;clear hS hsrc hm;go_wp2_with (at_builtin;go_loud (refine aK rfl _ _ 27 rfl 34 4 64 _ Tryz.underlying27 iQ rfl rfl HS.out rfl us1 HU1.out.1 HU1.out.2.1 oD.out HU1.out.2.2.1 (by have:=HM.out;omega) (by unfold maxLen;have:=HM.out;omega) ?_))
     intro a4 c4 w4 h4;have H4:=ah h4;clear h4 HS k0 k1;go_wp2;go_roundw;case rel=>exact⟨1,m+n1,c4,a4,vs++us1,rfl,by go_num,by omega,ah ⟨by rw[HM.out];simp[QI],by have:=gQ HV.out.2 HU1.out.2.2.2.1;simpa[Y3] using this⟩,H4.out⟩
     case measure=>simp[intOf]
    ·have hm:m=n1:=HV.out.1
     have hsrc:=HU2.out.2.2.2.2 wr hS.p1.ext;have oD:=ah hsrc;have HM:=ah hm;clear hS hsrc hm;go_wp2_with (at_builtin;go_loud (refine aK rfl _ _ 27 rfl 34 4 64 _ Tryz.underlying27 iQ rfl rfl HS.out rfl us2 HU2.out.1 HU2.out.2.1 oD.out HU2.out.2.2.1 (by have:=HM.out;have:=vw.out;omega) (by unfold maxLen;have:=HM.out;have:=vw.out;omega) ?_))
     intro a4 c4 w4 h4;have H4:=ah h4;clear h4 HS k0 k1;go_wp2;go_roundw;case rel=>exact⟨2,m+n2,c4,a4,vs++us2,rfl,by go_num,by omega,ah ⟨by rw[HM.out];simp[QI],by have:=gQ HV.out.2 HU2.out.2.2.2.1;simpa[Y3] using this⟩,H4.out⟩
     case measure=>simp[intOf]
    ·clear hS
     go_wp2;go_ret;exact⟨b,m,c,vs,rfl,by rw[HV.out.1];rfl,by have:=HV.out.2;simpa[Y3] using this,HS.out⟩
end Go.Proofs.YthfmaclnccdcbaaGreatDoor

/- Part of a proof. -/
import Derived.Test.YtgicfogmdfdjmaaGreatDoorGTitleOwners28
import Derived.Test.YtgicfogmdfdjmaaGreatDoorGTitleOwners15
import Derived.Deep.CutBlock
namespace PA
open Go Go.RowKit
theorem kR {α:Type} {R:Rep α} {k:Nat} {I:Mem} {c d:List Value} {xs ys:List α} (h:(R.rows k).rel I c xs) (h':(R.rows k).rel I d ys):(R.rows k).rel I (c++d) (xs++ys):=by
 obtain⟨c1,rfl,h1⟩:=h
 obtain⟨c2,rfl,h2⟩:=h'
 exact⟨c1++c2,by simp,h1.append h2⟩
theorem rX {α:Type} (R:Rep α) (k:Nat) (I:Mem):(R.rows k).rel I [] []:=⟨[],rfl,trivial⟩
theorem Ns {I:Mem} {cs:List Value} {f:Fm} (h:rF.rel I cs f):∀u∈cs,u.oneCell'=true:=by
 obtain⟨o,n,i,k⟩:=f
 obtain⟨a,c,b,d,rfl,-,-⟩:=gW.1 h
 intro u hu
 simp only[List.mem_cons,List.not_mem_nil,or_false] at hu
 rcases hu with rfl|rfl|rfl|rfl<;>rfl
theorem yI {I:Mem}:∀{css:List (List Value)} {xs:List Fm},dU (fun c x=>rF.rel I c x∧c.length=4) css xs→∀u∈css.flatten,u.oneCell'=true
 | [],[],_,u,hu=>by cases hu
 | c::css,x::xs,h,u,hu=>by
  rw[List.flatten_cons,List.mem_append] at hu
  rcases hu with hu|hu
  ·exact Ns h.1.1 u hu
  ·exact yI h.2 u hu
 | [],_::_,h,_,_=>h.elim
 | _::_,[],h,_,_=>h.elim
theorem sS {α:Type} {R:Rep α} {k:Nat} {I:Mem}:∀{css:List (List Value)} {xs:List α},dU (fun c x=>R.rel I c x∧c.length=k) css xs→css.flatten.length=xs.length*k
 | [],[],_=>by simp
 | c::css,x::xs,h=>by
  rw[List.flatten_cons,List.length_append,h.1.2,sS h.2,List.length_cons,Nat.add_mul];omega
 | [],_::_,h=>h.elim
 | _::_,[],h=>h.elim
theorem rY {I:Mem} {a:Option Addr} {n c:Nat} {l:List Fm} (h:(rF.slice 4).rel I [.slice a n c] l):
 ∃vs:List Value,vs.length=n*4∧(a=none→n=0)∧(∀u∈vs,u.oneCell'=true)∧(rF.rows 4).rel I vs l∧∀w',Ext I w'→∀b,a=some b→∀j u,vs[j]?=some u→w'.cell? (b.add j)=some u:=by
 obtain⟨a',c',cells,e,hsw,hc,hr⟩:=h
 simp only[List.cons.injEq,Value.slice.injEq,and_true] at e
 obtain⟨rfl,rfl,rfl⟩:=e
 obtain⟨css,rfl,h2⟩:=id hr
 exact⟨css.flatten,sS h2,fun e=>by have:=hsw.2.2 e;have:=hsw.1;omega,yI h2,hr,fun w' he=>uS hc he⟩
theorem oL {W w:World} {A:aH} {J:Mem} {E:Nat} {a:Option Addr} {n c:Nat} {vs:List Value} {xs:List Fm} (hr:(rF.rows 4).rel J vs xs) (hn:n=xs.length) (h:Sat W w (sep (aN E 4 a n c vs) (sep (kn J) A))):
 ∃J',Mem.le J J'∧(rF.slice 4).rel J' [.slice a n c] xs∧Sat W w (sep (kn J') A):=by
 have hsw:=h.eH
 obtain⟨J',hle,hJ,h9⟩:=h.dR.learn
 exact⟨J',hle,⟨a,c,vs,by rw[hn],by rw[←hn];exact hsw,hJ,(rF.rows 4).mono hle hr⟩,h9⟩
theorem Fm.Bg:∀f:Fm,f.iI.length≤f.size:=by
 intro f
 refine Fm.ind (P:=fun f=>f.iI.length≤f.size) (fun o n i k ih=>?_) f
 rw[Fm.iI,Fm.size]
 split
 ·have:(Fm.dQ k).length≤Fm.sizes k:=by
   induction k with
   | nil=>simp[Fm.dQ]
   | cons g k ihk=>
    rw[Fm.dQ,Fm.sizes,List.length_append]
    have h1:=ih g (List.mem_cons_self ..)
    have h2:=ihk fun f hf=>ih f (List.mem_cons_of_mem _ hf)
    omega
  omega
 ·simp
theorem Fm.Eo (l:List Fm):(Fm.dQ l).length≤Fm.sizes l:=by
 induction l with
 | nil=>simp[Fm.dQ]
 | cons g l ih=>rw[Fm.dQ,Fm.sizes,List.length_append];have:=Fm.Bg g;omega
theorem Fm.Bh (l:List Fm) (i:Nat) {f:Fm} (h:l[i]?=some f):Fm.dQ (l.take (i+1))=Fm.dQ (l.take i)++Fm.iI f:=by
 obtain⟨hi,rfl⟩:=List.getElem?_eq_some_iff.1 h
 exact Fm.KY l i hi
end PA
namespace Go.Proofs.YtgicfogmdfdjmaaGreatDoor
open Go.RowKit PA
attribute [local go_sem ↓] kD
attribute [local go_sem] MJ
set_option maxRecDepth 100000 in
set_option maxHeartbeats 4000000 in
theorem FX {W:World} (f:Fm):∀(w:World) (A:aH) (I:Mem) (p q:Int) (x1:Option Addr) (n1 c1:Nat) (x2:Option Addr) (n2 c2:Nat),rF.rel I [.int .i64 p,.int .i64 q,.slice x1 n1 c1,.slice x2 n2 c2] f→f.size≤oz→Sat W w (sep (kn I) A) →
 Calls Tryz.prog 197 #[.agg #[.int .i64 p,.int .i64 q,.slice x1 n1 c1,.slice x2 n2 c2]] w fun e w'=>∃(a:Option Addr) (n c:Nat) (J:Mem),e=.returned (.slice a n c)∧n=f.iI.length∧Mem.le I J∧(rF.slice 4).rel J [.slice a n c] f.iI∧Sat W w' (sep (kn J) A):=by
 refine Fm.ind (P:=fun f=>∀(w:World) (A:aH) (I:Mem) (p q:Int) (x1:Option Addr) (n1 c1:Nat) (x2:Option Addr) (n2 c2:Nat),rF.rel I [.int .i64 p,.int .i64 q,.slice x1 n1 c1,.slice x2 n2 c2] f→f.size≤oz→Sat W w (sep (kn I) A) →
  Calls Tryz.prog 197 #[.agg #[.int .i64 p,.int .i64 q,.slice x1 n1 c1,.slice x2 n2 c2]] w fun e w'=>∃(a:Option Addr) (n c:Nat) (J:Mem),e=.returned (.slice a n c)∧n=f.iI.length∧Mem.le I J∧(rF.slice 4).rel J [.slice a n c] f.iI∧Sat W w' (sep (kn J) A)) (fun o n i k ih=>?_) f
 intro w A I p q x1 n1 c1 x2 n2 c2 hr hsz h
 have hr0:=hr
 obtain⟨x1',c1',x2',c2',e,hi,hk⟩:=gW.1 hr
 simp only[List.cons.injEq,Value.int.injEq,Value.slice.injEq,true_and,and_true] at e
 obtain⟨rfl,rfl,⟨rfl,rfl,rfl⟩,⟨rfl,rfl,rfl⟩⟩:=e
 have h1:=h.alloc (.cells #[.int .i64 p,.int .i64 q,.slice x1 i.length c1,.slice x2 k.length c2] 65)
 obtain⟨nk,hnk⟩:=aG (k.length)
 obtain⟨ni,hni⟩:=aG (i.length)
 have xJ:=(aT hk).2.2
 have HIH:=ah ih
 rw[←hnk,←hni] at hr0
 rw[←hnk] at hk xJ h1 ⊢
 rw[←hni] at h1 ⊢
 obtain⟨B,hB⟩:=aG (w.heap.size)
 obtain⟨w1,hw1⟩:=aG (w.alloc (.cells #[.int .i64 p,.int .i64 q,.slice x1 ni c1,.slice x2 nk c2] 65))
 rw[←hB,←hw1] at h1
 have HB:=ah (And.intro hB hw1)
 have H1:=ah h1
 obtain⟨k0,k1,k2,k3⟩:=Dn h1
 have HR:=ah (And.intro hr0 (And.intro hk (And.intro hnk hsz)))
 clear hr hr0 hsz h hi hk h1 hB hw1 hnk hni ih
 by_cases o5:p=5
 ·subst o5
  have RX:Hid (∀r,r=Fm.dQ k→r=(Fm.mk 5 q i k).iI):=ah (fun r e=>by rw[e,Fm.iI,if_pos rfl])
  have RY:Fm.sizes k≤1000000:=by have:=HR.out.2.2.2;rw[Fm.size] at this;unfold oz at this;omega
  have Fa:=ah RY
  clear RY
  go_enter Tryz.func197,Tryz.ntmps197
  go_upto_region 1 with (fail)
  rw[←HB.out.1,←HB.out.2]
  go_upto_region 4 with (fail)
  clear k0 k1 k2 k3
  go_wp2_with fail
  go_loopw [3,4] (fun ov iv wr=>∃(j m d:Nat) (b:Option Addr) (vs:List Value) (J:Mem),ov=.slice b m d∧iv=.int .i64 j∧j≤nk∧m≤1000000∧Hid (m=(Fm.dQ (k.take j)).length∧Mem.le I J∧(rF.rows 4).rel J vs (Fm.dQ (k.take j)))∧Sat W wr (sep (aN 65 4 b m d vs) (sep (kn J) (sep (blk B (.cells #[.int .i64 5,.int .i64 q,.slice x1 ni c1,.slice x2 nk c2] 65 (0,0))) A)))) (fun _ iv _=>nk-(intOf iv).toNat)
  case atStart=>exact⟨0,0,0,none,[],I,rfl,rfl,by omega,by omega,ah ⟨by simp[Fm.dQ],Mem.le_refl _,by simp only[List.take_zero,Fm.dQ];exact rX _ _ _⟩,(H1.out.p1).dD 65 4⟩
  case round=>
   obtain⟨j,m,d,b,vs,J,rfl,rfl,hj,Y6,HV,hS⟩:=hrel
   obtain⟨-,-,-,k3⟩:=Dn hS.p2
   by_cases hlt:j<nk
   ·have hltz:(j:Int)<(nk:Int):=by omega
    obtain⟨g,hg⟩:∃g,k[j]?=some g:=⟨_,List.getElem?_eq_getElem (by have:=HR.out.2.2.1;omega)⟩
    obtain⟨b2,o2,p',q',y1,m1,d1,y2,m2,d2,rfl,hgr,hcell⟩:=kE HR.out.2.1 hg
    have hmem:g∈k:=List.mem_of_getElem? hg
    have hgJ:=rF.mono HV.out.2.1 hgr
    obtain⟨j0,j1,j2,j3⟩:=hcell wr (fun i o hb=>hS.p1.ext i o (HV.out.2.1 i o hb))
    have htk:=Fm.Bh k j hg
    have hgs:=Fm.rW hmem
    have hrec:=HIH.out g hmem wr _ J p' q' y1 m1 d1 y2 m2 d2 hgJ (by have:=Fa.out;unfold oz;omega) hS.p1
    have RZ:(Fm.dQ (k.take (j+1))).length≤1000000:=by have h1:=Fm.Eo (k.take (j+1));have h2:=Fm.Bc k (j+1);have:=Fa.out;omega
    have Qe:=ah hrec
    have HT:=ah (And.intro htk RZ)
    have HL:=ah hlt
    clear hgr hcell hmem hgJ htk hgs hrec hg hS hlt hj RZ H1
    go_upto_region 7 with (fail)
    go_wp2_with fail
    refine Qe.out.mono ?_
    rintro e w2 ⟨a3,n3,c3,J3,rfl,hn3,hle3,hr3,h2⟩
    obtain⟨us,EX,hu0,hu1,hur,l7⟩:=rY hr3
    have hmn:m+n3≤1000000:=by have:=HT.out.2;rw[HT.out.1,List.length_append,←HV.out.1,←hn3] at this;exact this
    have HU:=ah (And.intro EX (And.intro hu0 (And.intro hu1 (And.intro hur (l7 w2 h2.ext)))))
    have HN:=ah (And.intro hmn (And.intro hn3 hle3))
    have H2:=ah (show Sat W w2 (sep (aN 65 4 b m d vs) (sep (kn J3) (sep (blk B (.cells #[.int .i64 5,.int .i64 q,.slice x1 ni c1,.slice (some ⟨b2,o2,none⟩) nk c2] 65 (0,0))) A))) from h2.p1)
    clear h2 EX hu0 hu1 hur l7 hmn hn3 hle3 hr3 Qe j0 j1 j2 j3 k3
    go_wp2_with (at_builtin;go_loud (refine aJ rfl _ _ 58 rfl 65 4 64 _ Tryz.underlying58 lN rfl rfl H2.out rfl us HU.out.1 HU.out.2.1 HU.out.2.2.2.2 HU.out.2.2.1 (by have:=HN.out.1;omega) (by unfold maxLen;have:=HN.out.1;omega) ?_))
    intro a4 c4 w4 h4
    have H4:=ah h4
    clear h4 H2
    go_wp2
    go_roundw
    case rel=>exact⟨j+1,m+n3,c4,a4,vs++us,J3,rfl,by go_num,by have:=HL.out;omega,HN.out.1,ah ⟨by rw[HT.out.1,List.length_append,←HV.out.1,←HN.out.2.1],Mem.le_trans HV.out.2.1 HN.out.2.2,by rw[HT.out.1];exact kR ((rF.rows 4).mono HN.out.2.2 HV.out.2.2) HU.out.2.2.2.1⟩,H4.out⟩
    case measure=>simp[intOf];have:=HL.out;omega
   ·obtain rfl:j=nk:=by omega
    obtain⟨hv1,hv2,hv3⟩:=HV.out
    rw[List.take_of_length_le (by have:=HR.out.2.2.1;omega)] at hv1 hv3
    obtain⟨J',hle',hr',h'⟩:=oL hv3 hv1 hS
    have HF:=ah (And.intro hv1 (And.intro (Mem.le_trans hv2 hle') (And.intro hr' h'.p1.drop)))
    clear hS hv1 hv2 hv3 hle' hr' h' H1
    go_wp2
    go_ret
    rw[←RX.out _ rfl]
    exact⟨b,m,d,J',rfl,HF.out.1,HF.out.2.1,HF.out.2.2.1,HF.out.2.2.2⟩
 ·have RX:Hid ((Fm.mk p q i k).iI=[Fm.mk p q i k]):=ah (by rw[Fm.iI,if_neg o5])
  have o5':(p !=5)=true:=by simpa using o5
  have h5:=H1.out.alloc (.cells #[.int .i64 p,.int .i64 q,.slice x1 ni c1,.slice x2 nk c2] 65)
  obtain⟨J',hle',hr',h6⟩:=tK (R:=rF) (k:=4) (show Sat W w1 (sep (kn I) (sep (blk B (.cells #[.int .i64 p,.int .i64 q,.slice x1 ni c1,.slice x2 nk c2] 65 (0,0))) A)) from H1.out.p1) [.int .i64 p,.int .i64 q,.slice x1 ni c1,.slice x2 nk c2] [Fm.mk p q i k] 65 (jF HR.out.1 rfl) (by simp[maxLen])
  have HF:=ah (And.intro hle' (And.intro hr' h6.p1.drop))
  clear h5 hle' hr' h6 o5
  go_enter Tryz.func197,Tryz.ntmps197
  go_upto_region 1 with (fail)
  rw[←HB.out.1,←HB.out.2]
  go_wp2
  go_ret
  rw[RX.out]
  exact⟨_,_,_,J',rfl,rfl,HF.out.1,HF.out.2.1,HF.out.2.2⟩
set_option maxRecDepth 100000 in
set_option maxHeartbeats 4000000 in
theorem Dq {W:World} (f:Fm):∀(w:World) (A:aH) (I:Mem) (p q:Int) (x1:Option Addr) (n1 c1:Nat) (x2:Option Addr) (n2 c2:Nat),rF.rel I [.int .i64 p,.int .i64 q,.slice x1 n1 c1,.slice x2 n2 c2] f→f.size≤oz→Sat W w (sep (kn I) A) →
 Calls Tryz.prog 178 #[.agg #[.int .i64 p,.int .i64 q,.slice x1 n1 c1,.slice x2 n2 c2]] w fun e w'=>∃(a:Option Addr) (n c:Nat) (J:Mem),e=.returned (.slice a n c)∧n=f.iI.length∧Mem.le I J∧(rF.slice 4).rel J [.slice a n c] f.iI∧Sat W w' (sep (kn J) A):=by
 refine Fm.ind (P:=fun f=>∀(w:World) (A:aH) (I:Mem) (p q:Int) (x1:Option Addr) (n1 c1:Nat) (x2:Option Addr) (n2 c2:Nat),rF.rel I [.int .i64 p,.int .i64 q,.slice x1 n1 c1,.slice x2 n2 c2] f→f.size≤oz→Sat W w (sep (kn I) A) →
  Calls Tryz.prog 178 #[.agg #[.int .i64 p,.int .i64 q,.slice x1 n1 c1,.slice x2 n2 c2]] w fun e w'=>∃(a:Option Addr) (n c:Nat) (J:Mem),e=.returned (.slice a n c)∧n=f.iI.length∧Mem.le I J∧(rF.slice 4).rel J [.slice a n c] f.iI∧Sat W w' (sep (kn J) A)) (fun o n i k ih=>?_) f
 intro w A I p q x1 n1 c1 x2 n2 c2 hr hsz h
 have hr0:=hr
 obtain⟨x1',c1',x2',c2',e,hi,hk⟩:=gW.1 hr
 simp only[List.cons.injEq,Value.int.injEq,Value.slice.injEq,true_and,and_true] at e
 obtain⟨rfl,rfl,⟨rfl,rfl,rfl⟩,⟨rfl,rfl,rfl⟩⟩:=e
 have h1:=h.alloc (.cells #[.int .i64 p,.int .i64 q,.slice x1 i.length c1,.slice x2 k.length c2] 65)
 obtain⟨nk,hnk⟩:=aG (k.length)
 obtain⟨ni,hni⟩:=aG (i.length)
 have xJ:=(aT hk).2.2
 have HIH:=ah ih
 rw[←hnk,←hni] at hr0
 rw[←hnk] at hk xJ h1 ⊢
 rw[←hni] at h1 ⊢
 obtain⟨B,hB⟩:=aG (w.heap.size)
 obtain⟨w1,hw1⟩:=aG (w.alloc (.cells #[.int .i64 p,.int .i64 q,.slice x1 ni c1,.slice x2 nk c2] 65))
 rw[←hB,←hw1] at h1
 have HB:=ah (And.intro hB hw1)
 have H1:=ah h1
 obtain⟨k0,k1,k2,k3⟩:=Dn h1
 have HR:=ah (And.intro hr0 (And.intro hk (And.intro hnk hsz)))
 clear hr hr0 hsz h hi hk h1 hB hw1 hnk hni ih
 by_cases o5:p=5
 ·subst o5
  have RX:Hid (∀r,r=Fm.dQ k→r=(Fm.mk 5 q i k).iI):=ah (fun r e=>by rw[e,Fm.iI,if_pos rfl])
  have RY:Fm.sizes k≤1000000:=by have:=HR.out.2.2.2;rw[Fm.size] at this;unfold oz at this;omega
  have Fa:=ah RY
  clear RY
  go_enter Tryz.func178,Tryz.ntmps178
  go_upto_region 1 with (fail)
  rw[←HB.out.1,←HB.out.2]
  go_upto_region 4 with (fail)
  clear k0 k1 k2 k3
  go_wp2_with fail
  go_loopw [3,4] (fun ov iv wr=>∃(j m d:Nat) (b:Option Addr) (vs:List Value) (J:Mem),ov=.slice b m d∧iv=.int .i64 j∧j≤nk∧m≤1000000∧Hid (m=(Fm.dQ (k.take j)).length∧Mem.le I J∧(rF.rows 4).rel J vs (Fm.dQ (k.take j)))∧Sat W wr (sep (aN 65 4 b m d vs) (sep (kn J) (sep (blk B (.cells #[.int .i64 5,.int .i64 q,.slice x1 ni c1,.slice x2 nk c2] 65 (0,0))) A)))) (fun _ iv _=>nk-(intOf iv).toNat)
  case atStart=>exact⟨0,0,0,none,[],I,rfl,rfl,by omega,by omega,ah ⟨by simp[Fm.dQ],Mem.le_refl _,by simp only[List.take_zero,Fm.dQ];exact rX _ _ _⟩,(H1.out.p1).dD 65 4⟩
  case round=>
   obtain⟨j,m,d,b,vs,J,rfl,rfl,hj,Y6,HV,hS⟩:=hrel
   obtain⟨-,-,-,k3⟩:=Dn hS.p2
   by_cases hlt:j<nk
   ·have hltz:(j:Int)<(nk:Int):=by omega
    obtain⟨g,hg⟩:∃g,k[j]?=some g:=⟨_,List.getElem?_eq_getElem (by have:=HR.out.2.2.1;omega)⟩
    obtain⟨b2,o2,p',q',y1,m1,d1,y2,m2,d2,rfl,hgr,hcell⟩:=kE HR.out.2.1 hg
    have hmem:g∈k:=List.mem_of_getElem? hg
    have hgJ:=rF.mono HV.out.2.1 hgr
    obtain⟨j0,j1,j2,j3⟩:=hcell wr (fun i o hb=>hS.p1.ext i o (HV.out.2.1 i o hb))
    have htk:=Fm.Bh k j hg
    have hgs:=Fm.rW hmem
    have hrec:=HIH.out g hmem wr _ J p' q' y1 m1 d1 y2 m2 d2 hgJ (by have:=Fa.out;unfold oz;omega) hS.p1
    have RZ:(Fm.dQ (k.take (j+1))).length≤1000000:=by have h1:=Fm.Eo (k.take (j+1));have h2:=Fm.Bc k (j+1);have:=Fa.out;omega
    have Qe:=ah hrec
    have HT:=ah (And.intro htk RZ)
    have HL:=ah hlt
    clear hgr hcell hmem hgJ htk hgs hrec hg hS hlt hj RZ H1
    go_upto_region 7 with (fail)
    go_wp2_with fail
    refine Qe.out.mono ?_
    rintro e w2 ⟨a3,n3,c3,J3,rfl,hn3,hle3,hr3,h2⟩
    obtain⟨us,EX,hu0,hu1,hur,l7⟩:=rY hr3
    have hmn:m+n3≤1000000:=by have:=HT.out.2;rw[HT.out.1,List.length_append,←HV.out.1,←hn3] at this;exact this
    have HU:=ah (And.intro EX (And.intro hu0 (And.intro hu1 (And.intro hur (l7 w2 h2.ext)))))
    have HN:=ah (And.intro hmn (And.intro hn3 hle3))
    have H2:=ah (show Sat W w2 (sep (aN 65 4 b m d vs) (sep (kn J3) (sep (blk B (.cells #[.int .i64 5,.int .i64 q,.slice x1 ni c1,.slice (some ⟨b2,o2,none⟩) nk c2] 65 (0,0))) A))) from h2.p1)
    clear h2 EX hu0 hu1 hur l7 hmn hn3 hle3 hr3 Qe j0 j1 j2 j3 k3
    go_wp2_with (at_builtin;go_loud (refine aJ rfl _ _ 58 rfl 65 4 64 _ Tryz.underlying58 lN rfl rfl H2.out rfl us HU.out.1 HU.out.2.1 HU.out.2.2.2.2 HU.out.2.2.1 (by have:=HN.out.1;omega) (by unfold maxLen;have:=HN.out.1;omega) ?_))
    intro a4 c4 w4 h4
    have H4:=ah h4
    clear h4 H2
    go_wp2
    go_roundw
    case rel=>exact⟨j+1,m+n3,c4,a4,vs++us,J3,rfl,by go_num,by have:=HL.out;omega,HN.out.1,ah ⟨by rw[HT.out.1,List.length_append,←HV.out.1,←HN.out.2.1],Mem.le_trans HV.out.2.1 HN.out.2.2,by rw[HT.out.1];exact kR ((rF.rows 4).mono HN.out.2.2 HV.out.2.2) HU.out.2.2.2.1⟩,H4.out⟩
    case measure=>simp[intOf];have:=HL.out;omega
   ·obtain rfl:j=nk:=by omega
    obtain⟨hv1,hv2,hv3⟩:=HV.out
    rw[List.take_of_length_le (by have:=HR.out.2.2.1;omega)] at hv1 hv3
    obtain⟨J',hle',hr',h'⟩:=oL hv3 hv1 hS
    have HF:=ah (And.intro hv1 (And.intro (Mem.le_trans hv2 hle') (And.intro hr' h'.p1.drop)))
    clear hS hv1 hv2 hv3 hle' hr' h' H1
    go_wp2
    go_ret
    rw[←RX.out _ rfl]
    exact⟨b,m,d,J',rfl,HF.out.1,HF.out.2.1,HF.out.2.2.1,HF.out.2.2.2⟩
 ·have RX:Hid ((Fm.mk p q i k).iI=[Fm.mk p q i k]):=ah (by rw[Fm.iI,if_neg o5])
  have o5':(p !=5)=true:=by simpa using o5
  have h5:=H1.out.alloc (.cells #[.int .i64 p,.int .i64 q,.slice x1 ni c1,.slice x2 nk c2] 65)
  obtain⟨J',hle',hr',h6⟩:=tK (R:=rF) (k:=4) (show Sat W w1 (sep (kn I) (sep (blk B (.cells #[.int .i64 p,.int .i64 q,.slice x1 ni c1,.slice x2 nk c2] 65 (0,0))) A)) from H1.out.p1) [.int .i64 p,.int .i64 q,.slice x1 ni c1,.slice x2 nk c2] [Fm.mk p q i k] 65 (jF HR.out.1 rfl) (by simp[maxLen])
  have HF:=ah (And.intro hle' (And.intro hr' h6.p1.drop))
  clear h5 hle' hr' h6 o5
  go_enter Tryz.func178,Tryz.ntmps178
  go_upto_region 1 with (fail)
  rw[←HB.out.1,←HB.out.2]
  go_wp2
  go_ret
  rw[RX.out]
  exact⟨_,_,_,J',rfl,rfl,HF.out.1,HF.out.2.1,HF.out.2.2⟩
set_option maxHeartbeats 2000000 in
theorem sU {W w:World} {A:aH} {I:Mem} (f:Fm) (p q:Int) (x1:Option Addr) (n1 c1:Nat) (x2:Option Addr) (n2 c2:Nat) (hr:rF.rel I [.int .i64 p,.int .i64 q,.slice x1 n1 c1,.slice x2 n2 c2] f) (h:Sat W w (sep (kn I) A)):
 Calls Tryz.prog 198 #[.agg #[.int .i64 p,.int .i64 q,.slice x1 n1 c1,.slice x2 n2 c2]] w fun e w'=>∃(a:Option Addr) (n c:Nat) (J:Mem),e=.returned (.slice a n c)∧n=f.parts.length∧Mem.le I J∧(rF.slice 4).rel J [.slice a n c] f.parts∧Sat W w' (sep (kn J) A):=by
 obtain⟨o,n,i,k⟩:=f
 have hr0:=hr
 obtain⟨x1',c1',x2',c2',e,hi,hk⟩:=gW.1 hr
 simp only[List.cons.injEq,Value.int.injEq,Value.slice.injEq,true_and,and_true] at e
 obtain⟨rfl,rfl,⟨rfl,rfl,rfl⟩,⟨rfl,rfl,rfl⟩⟩:=e
 have h1:=h.alloc (.cells #[.int .i64 p,.int .i64 q,.slice x1 i.length c1,.slice x2 k.length c2] 65)
 obtain⟨nk,hnk⟩:=aG (k.length)
 obtain⟨ni,hni⟩:=aG (i.length)
 rw[←hnk,←hni] at hr0
 rw[←hnk] at hk h1 ⊢
 rw[←hni] at h1 ⊢
 obtain⟨B,hB⟩:=aG (w.heap.size)
 obtain⟨w1,hw1⟩:=aG (w.alloc (.cells #[.int .i64 p,.int .i64 q,.slice x1 ni c1,.slice x2 nk c2] 65))
 rw[←hB,←hw1] at h1
 have HB:=ah (And.intro hB hw1)
 have H1:=ah h1
 obtain⟨k0,k1,k2,k3⟩:=Dn h1
 have HR:=ah (And.intro hr0 (And.intro hk hnk))
 clear hr hr0 h hi hk h1 hB hw1 hnk hni
 by_cases o4:p=4
 ·subst o4
  have RX:Hid ((Fm.mk 4 q i k).parts=k):=ah (show (if (4:Int)=4 then k else [Fm.mk 4 q i k])=k from if_pos rfl)
  go_enter Tryz.func198,Tryz.ntmps198
  go_upto_region 1 with (fail)
  rw[←HB.out.1,←HB.out.2]
  go_wp2
  go_ret
  rw[RX.out]
  exact⟨_,_,_,I,rfl,HR.out.2.2,Mem.le_refl _,HR.out.2.1,H1.out.drop⟩
 ·have RX:Hid ((Fm.mk p q i k).parts=[Fm.mk p q i k]):=ah (show (if p=4 then k else [Fm.mk p q i k])=[Fm.mk p q i k] from if_neg o4)
  have o4':(p==4)=false:=by simpa using o4
  obtain⟨J',hle',hr',h6⟩:=tK (R:=rF) (k:=4) (show Sat W w1 (sep (kn I) (sep (blk B (.cells #[.int .i64 p,.int .i64 q,.slice x1 ni c1,.slice x2 nk c2] 65 (0,0))) A)) from H1.out.p1) [.int .i64 p,.int .i64 q,.slice x1 ni c1,.slice x2 nk c2] [Fm.mk p q i k] 65 (jF HR.out.1 rfl) (by simp[maxLen])
  have HF:=ah (And.intro hle' (And.intro hr' h6.p1.drop))
  clear hle' hr' h6 o4
  go_enter Tryz.func198,Tryz.ntmps198
  go_upto_region 1 with (fail)
  rw[←HB.out.1,←HB.out.2]
  go_wp2
  go_ret
  rw[RX.out]
  exact⟨_,_,_,J',rfl,rfl,HF.out.1,HF.out.2.1,HF.out.2.2⟩
end Go.Proofs.YtgicfogmdfdjmaaGreatDoor
namespace PA
open Go
theorem vV {f:Fm} (h:pV f=0):f.size≤96:=by
 unfold pV Fm.valid at h
 split at h
 ·cases h
 ·omega
theorem Ep:∀(f g:Fm),g∈f.iI→g.size≤f.size:=by
 intro f
 refine Fm.ind (P:=fun f=>∀g,g∈f.iI→g.size≤f.size) (fun o n i k ih g hg=>?_) f
 rw[Fm.iI] at hg
 split at hg
 ·have key:∀(l:List Fm),(∀f∈l,∀g,g∈f.iI→g.size≤f.size)→g∈Fm.dQ l→g.size≤Fm.sizes l:=by
   intro l
   induction l with
   | nil=>intro _ h;simp[Fm.dQ] at h
   | cons x l ihl=>
    intro h1 h2
    rw[Fm.dQ,List.mem_append] at h2
    rw[Fm.sizes]
    rcases h2 with h2|h2
    ·have:=h1 x (List.mem_cons_self ..) g h2;omega
    ·have:=ihl (fun f hf=>h1 f (List.mem_cons_of_mem _ hf)) h2;omega
  have:=key k ih hg
  rw[Fm.size];omega
 ·rw[List.mem_singleton.1 hg];exact Nat.le_refl _
theorem oM (f:Fm):Fm.sizes f.parts≤f.size:=by
 obtain⟨o,n,i,k⟩:=f
 unfold Fm.parts
 split
 ·show Fm.sizes k≤_;rw[Fm.size];omega
 ·simp[Fm.sizes]
theorem FY (a b:List Fm):Fm.sizes (a++b)=Fm.sizes a+Fm.sizes b:=by
 induction a with
 | nil=>simp[Fm.sizes]
 | cons g a ih=>rw[List.cons_append,Fm.sizes,Fm.sizes,ih];omega
theorem Lj (a b:Fm):(kP a b).size≤a.size+b.size+1:=by
 unfold kP
 rw[Fm.size,FY]
 have:=oM a;have:=oM b;omega
theorem Bj:∀{x t y:List Fm},fO x t=some y→∀f∈y,pV f=0
 | [],t,y,h,f,hf=>by cases h;cases hf
 | a::x,t,y,h,f,hf=>by
  unfold fO at h
  split at h
  ·rename_i hall
   cases hc:fO x t with
   | none=>rw[hc] at h;cases h
   | some z=>
    rw[hc] at h
    cases h
    rcases List.mem_append.1 hf with hf|hf
    ·obtain⟨b,hb,rfl⟩:=List.mem_map.1 hf
     have:=List.all_eq_true.1 hall b hb
     simpa using this
    ·exact Bj hc f hf
  ·cases h
theorem yJ {of:Nat→Option (List Fm)} {own:List Fm}:∀{rs:List Int} {out y:List Fm},(∀f∈out,pV f=0)→iH of own rs out=some y→∀f∈y,pV f=0
 | [],out,y,h0,h=>by cases h;exact h0
 | r::rs,out,y,h0,h=>by
  unfold iH at h
  split at h
  ·cases h
  ·split at h
   ·cases h
   ·split at h
    ·cases h
    ·rename_i z hz
     exact yJ (fun f hf=>(List.mem_append.1 hf).elim (h0 f) (Bj hz f)) h
theorem Nu {l:List Cl} {k:Nat} {c:Cl} (h:l[k]?=some c):lG l k=KZ (fun r=>if r<k then lG l r else none) c:=by
 rw[lG,h]
theorem OX {l:List Cl} (hok:AX l=0) {k:Nat} {y:List Fm} (h:lG l k=some y):∀f∈y,f.size≤96:=by
 intro f hf
 cases hc:l[k]? with
 | none=>rw[lG,hc] at h;cases h
 | some c=>
  rw[Nu hc] at h
  obtain⟨hk,hcl⟩:=List.getElem?_eq_some_iff.1 hc
  have hb:=((KX hok).2 k hk).2.2
  rw[hcl] at hb
  unfold KZ at h
  split at h
  ·split at h
   ·cases h
    have:=Ep c.body f hf
    have:=vV hb
    omega
   ·cases h
  ·exact vV (yJ (fun f hf=>by cases hf) h f hf)
def Es (t:List Fm) (a:Fm):Bool:=t.all fun b=>decide (pV (kP a b)=0)
theorem yK:∀(x t:List Fm) (a:Fm),fO (x++[a]) t=match fO x t with|none=>none|some y=>if Es t a=true then some (y++t.map (kP a)) else none
 | [],t,a=>by
  show fO [a] t=_
  unfold fO Es
  split
  ·rename_i h;simp[fO]
  ·rfl
 | z::x,t,a=>by
  rw[List.cons_append]
  unfold fO
  by_cases hz:(t.all fun b=>decide (pV (kP z b)=0))=true
  ·rw[if_pos hz,if_pos hz,yK x t a]
   cases fO x t with
   | none=>rfl
   | some y=>
    simp only[Option.map_some]
    by_cases ha:Es t a=true
    ·rw[if_pos ha,if_pos ha,Option.map_some,List.append_assoc]
    ·rw[if_neg ha,if_neg ha];rfl
  ·rw[if_neg hz,if_neg hz]
theorem I7 {x t:List Fm} {i:Nat} {a:Fm} (h:x[i]?=some a) {y:List Fm} (hy:fO (x.take i) t=some y) (hr:Es t a=true):fO (x.take (i+1)) t=some (y++t.map (kP a)):=by
 obtain⟨hi,rfl⟩:=List.getElem?_eq_some_iff.1 h
 rw[List.take_succ_eq_append_getElem hi,yK,hy]
 simp only[hr,if_true]
theorem Bl:∀{x t:List Fm} {a b:Fm},a∈x→b∈t→pV (kP a b)≠0→fO x t=none
 | [],_,_,_,h,_,_=>by cases h
 | z::x,t,a,b,ha,hb,hn=>by
  unfold fO
  rcases List.mem_cons.1 ha with rfl|ha
  ·rw[if_neg]
   intro hall
   have:=List.all_eq_true.1 hall b hb
   simp at this
   exact hn this
  ·split
   ·rw[Bl ha hb hn];rfl
   ·rfl
theorem Si {t:List Fm} {a:Fm} (h:∀(i:Nat) (b:Fm),t[i]?=some b→pV (kP a b)=0):Es t a=true:=by
 unfold Es
 rw[List.all_eq_true]
 intro b hb
 obtain⟨i,hi⟩:=List.mem_iff_getElem?.1 hb
 simpa using h i b hi
theorem Ll {of:Nat→Option (List Fm)} {own out:List Fm} {rs:List Int} {j:Nat} {r:Int} (h:rs[j]?=some r):iH of own (rs.drop j) out=match of r.toNat with
 | none=>none
 | some x=>if 64<out.length+x.length*own.length then none else match fO x own with|none=>none|some y=>iH of own (rs.drop (j+1)) (out++y):=by
 obtain⟨hj,rfl⟩:=List.getElem?_eq_some_iff.1 h
 rw[List.drop_eq_getElem_cons hj,iH]
 rfl
theorem I8 {of:Nat→Option (List Fm)} {own out:List Fm} {rs:List Int} {j:Nat} (h:rs.length≤j):iH of own (rs.drop j) out=some out:=by
 rw[List.drop_of_length_le h,iH]
end PA
namespace PA
open Go Go.RowKit
theorem sN.mono {P:Program} {o:Oper} {a:Act} {w:World} {X Y:Value→World→Prop} (h:sN P o a w X) (hxy:∀v w',X v w'→Y v w'):sN P o a w Y:=by
 rcases h with ⟨v,w',h1,h2⟩|⟨f,args,w1,h1,h2⟩
 ·exact .inl ⟨v,w',h1,hxy v w' h2⟩
 ·exact .inr ⟨f,args,w1,h1,h2.mono fun e w' ⟨v,e1,h3⟩=>⟨v,e1,hxy v w' h3⟩⟩
theorem mY {P:Program} {W w:World} {A:aH} {o:Oper} {ac:Act} (s y:Operand) (t:TypeId) (ho:o.op=.call { callee:=.builtin .append,args:=#[s,y],argTypes:=#[t,t] })
 (E k GI:Nat) (z:Value) (ht:P.underlying t=some (.slice E)) (hi:(P.info? E).map (fun i=>(i.zero,i.size,i.bytes))=some (some z,k,GI)) (hzs:z.cells.size=k)
 {a:Option Addr} {n c:Nat} {xs:List Value} (hs:ac.eval s=.slice a n c) (h:Sat W w (sep (aN E k a n c xs) A))
 {x:Option Addr} {m cc:Nat} (hy:ac.eval y=.slice x m cc) (news:List Value) (hl:news.length=m*k) (hx0:x=none→m=0) (hx:∀b,x=some b→∀j u,news[j]?=some u→w.cell? (b.add j)=some u)
 (h1:∀u∈news,u.oneCell'=true) (hby:(n+m)*GI≤140737488355328) (h63:n+m≤maxLen):
 sN P o ac w fun v w'=>∃a' c',v=.slice a' (n+m) c'∧Sat W w' (sep (aN E k a' (n+m) c' (xs++news)) A):=by
 obtain⟨i,hi1,hi2,hi3,hi4⟩:=info_parts hi
 obtain⟨a',c',w',hr,hS⟩:=lW t o.type E k GI i z ht hi1 hi2 hi3 hi4 hzs h x m cc news hl hx0 hx h1 h63 hby
 exact .inl ⟨_,w',qF s y t t ho (by rw[hs,hy];exact hr),a',c',rfl,hS⟩
structure vW where
 J:Mem
 us:List Value
 a:Option Addr
 n:Nat
 c:Nat
structure I9 (J0:Mem) (pa pb:List Fm) (f:Nat→Option Value) (q:vW):Prop where
 le:Mem.le J0 q.J
 r5:∀v,f 5=some v→∃a n c,v=.slice a n c∧n=pa.length∧(rF.slice 4).rel q.J [.slice a n c] pa
 r11:∀v,f 11=some v→∃a n c,v=.slice a n c∧n=pb.length∧(rF.slice 4).rel q.J [.slice a n c] pb
 e0:∀v,f 0=some v→f 6=none→v=.slice q.a q.n q.c∧q.n=0∧q.us=[]
 e6:∀v,f 6=some v→f 12=none→v=.slice q.a q.n q.c∧q.n=pa.length∧(rF.rows 4).rel q.J q.us pa
 e12:∀v,f 12=some v→v=.slice q.a q.n q.c∧q.n=pa.length+pb.length∧(rF.rows 4).rel q.J q.us (pa++pb)
 e13:∀v,f 13=some v→∃u,f 12=some u∧v=.agg #[.int .i64 4,.int .i64 0,.slice none 0 0,u]
def jB (E:Nat) (f:Nat→Option Value) (q:vW):aH:=match f 0 with|some _=>aN E 4 q.a q.n q.c q.us|none=>emp
def iZ (t:TypeId) (f:Nat→Option Value):aH:=match f 14 with|some v=>ex fun g:Nat=>sep (fact (v=.pointer (some ⟨g,0,none⟩))) (blk g (.cells #[.int .i64 0,.int .i64 0,.slice none 0 0,.slice none 0 0] t (0,0)))|none=>emp
def pairT (E:Nat) (t:TypeId) (J0:Mem) (pa pb:List Fm) (Z:aH) (f:Nat→Option Value):aH:=
 ex fun q:vW=>sep (fact (I9 J0 pa pb f q)) (sep (kn q.J) (sep (jB E f q) (sep (iZ t f) Z)))
theorem dW {W w:World} {E:Nat} {t:TypeId} {J0:Mem} {pa pb:List Fm} {Z:aH} {f:Nat→Option Value}:Sat W w (pairT E t J0 pa pb Z f)↔∃q,I9 J0 pa pb f q∧Sat W w (sep (kn q.J) (sep (jB E f q) (sep (iZ t f) Z))):=by
 unfold pairT
 rw[Sat.ex]
 exact⟨fun ⟨q,h⟩=>⟨q,Sat.fact.1 h⟩,fun ⟨q,h⟩=>⟨q,Sat.fact.2 h⟩⟩
theorem Bo {E:Nat} {f:Nat→Option Value} {q:vW} (h:f 0=none):jB E f q=emp:=by unfold jB;rw[h]
theorem l9 {E:Nat} {f:Nat→Option Value} {q:vW} {v:Value} (h:f 0=some v):jB E f q=aN E 4 q.a q.n q.c q.us:=by unfold jB;rw[h]
theorem Bq {t:TypeId} {f:Nat→Option Value} (h:f 14=none):iZ t f=emp:=by unfold iZ;rw[h]
theorem Bv {t:TypeId} {f:Nat→Option Value} {v:Value} (h:f 14=some v):iZ t f=ex fun g:Nat=>sep (fact (v=.pointer (some ⟨g,0,none⟩))) (blk g (.cells #[.int .i64 0,.int .i64 0,.slice none 0 0,.slice none 0 0] t (0,0))):=by unfold iZ;rw[h]
theorem pair_0 {W w w':World} {E:Nat} {t:TypeId} {J0:Mem} {pa pb:List Fm} {Z:aH} {f:Nat→Option Value} {g c:Nat} (h0:f 0=none) (h6:f 6=none) (h12:f 12=none)
 (hs:∀q:vW,I9 J0 pa pb f q→Sat W w (sep (kn q.J) (sep (iZ t f) Z))→Sat W w' (sep (aN E 4 (some ⟨g,0,none⟩) 0 c []) (sep (kn q.J) (sep (iZ t f) Z)))) (h:Sat W w (pairT E t J0 pa pb Z f)):
 Sat W w' (pairT E t J0 pa pb Z (kL f 0 (.slice (some ⟨g,0,none⟩) 0 c))):=by
 obtain⟨q,hp,h1⟩:=dW.1 h
 rw[Bo h0,bW] at h1
 have h2:=hs q hp h1
 refine dW.2 ⟨⟨q.J,[],some ⟨g,0,none⟩,0,c⟩,⟨hp.le,fun v hv=>hp.r5 v (by rwa [aV (by decide)] at hv),fun v hv=>hp.r11 v (by rwa [aV (by decide)] at hv),fun v hv _=>?_,fun v hv _=>?_,fun v hv=>?_,fun v hv=>by rw[aV (by decide)] at hv ⊢;exact hp.e13 v hv⟩,?_⟩
 ·rw[gK] at hv;cases hv;exact⟨rfl,rfl,rfl⟩
 ·rw[aV (by decide),h6] at hv;cases hv
 ·rw[aV (by decide),h12] at hv;cases hv
 ·rw[l9 gK]
  have e:iZ t (kL f 0 (.slice (some ⟨g,0,none⟩) 0 c))=iZ t f:=by unfold iZ;rw[aV (by decide)]
  rw[e]
  exact h2.p1
theorem Et {W w':World} {E:Nat} {t:TypeId} {J0:Mem} {pa pb:List Fm} {Z:aH} {f:Nat→Option Value} {x:Nat} {v:Value} (hx:x≠0∧x≠6∧x≠12∧x≠14∧x≠13) {q:vW} {J':Mem} (hp:I9 J0 pa pb f q) (hle:Mem.le q.J J')
 (h5:x=5→∃a n c,v=.slice a n c∧n=pa.length∧(rF.slice 4).rel J' [.slice a n c] pa) (h11:x=11→∃a n c,v=.slice a n c∧n=pb.length∧(rF.slice 4).rel J' [.slice a n c] pb)
 (h:Sat W w' (sep (kn J') (sep (jB E f q) (sep (iZ t f) Z)))):Sat W w' (pairT E t J0 pa pb Z (kL f x v)):=by
 obtain⟨x0,x6,x12,x14,x13⟩:=hx
 refine dW.2 ⟨⟨J',q.us,q.a,q.n,q.c⟩,⟨Mem.le_trans hp.le hle,fun u hu=>?_,fun u hu=>?_,fun u hu h6=>?_,fun u hu h12=>?_,fun u hu=>?_,fun u hu=>by rw[aV (Ne.symm x13)] at hu;rw[aV (Ne.symm x12)];exact hp.e13 u hu⟩,?_⟩
 ·by_cases e:x=5
  ·subst e;rw[gK] at hu;cases hu;exact h5 rfl
  ·rw[aV (Ne.symm e)] at hu
   obtain⟨a,n,c,e1,e2,e3⟩:=hp.r5 u hu
   exact⟨a,n,c,e1,e2,(rF.slice 4).mono hle e3⟩
 ·by_cases e:x=11
  ·subst e;rw[gK] at hu;cases hu;exact h11 rfl
  ·rw[aV (Ne.symm e)] at hu
   obtain⟨a,n,c,e1,e2,e3⟩:=hp.r11 u hu
   exact⟨a,n,c,e1,e2,(rF.slice 4).mono hle e3⟩
 ·rw[aV (Ne.symm x0)] at hu
  rw[aV (Ne.symm x6)] at h6
  exact hp.e0 u hu h6
 ·rw[aV (Ne.symm x6)] at hu
  rw[aV (Ne.symm x12)] at h12
  obtain⟨e1,e2,e3⟩:=hp.e6 u hu h12
  exact⟨e1,e2,(rF.rows 4).mono hle e3⟩
 ·rw[aV (Ne.symm x12)] at hu
  obtain⟨e1,e2,e3⟩:=hp.e12 u hu
  exact⟨e1,e2,(rF.rows 4).mono hle e3⟩
 ·have e1:iZ t (kL f x v)=iZ t f:=by unfold iZ;rw[aV (Ne.symm x14)]
  have e2:jB E (kL f x v) ⟨J',q.us,q.a,q.n,q.c⟩=jB E f q:=by unfold jB;rw[aV (Ne.symm x0)]
  rw[e1,e2]
  exact h
theorem VE {W w w':World} {E:Nat} {t:TypeId} {J0:Mem} {pa pb:List Fm} {Z:aH} {f:Nat→Option Value} {g:Nat} (Cj:f 14=none)
 (hs:∀q:vW,Sat W w (sep (kn q.J) (sep (jB E f q) Z))→Sat W w' (sep (blk g (.cells #[.int .i64 0,.int .i64 0,.slice none 0 0,.slice none 0 0] t (0,0))) (sep (kn q.J) (sep (jB E f q) Z)))) (h:Sat W w (pairT E t J0 pa pb Z f)):
 Sat W w' (pairT E t J0 pa pb Z (kL f 14 (.pointer (some ⟨g,0,none⟩)))):=by
 obtain⟨q,hp,h1⟩:=dW.1 h
 rw[Bq Cj,bW] at h1
 have h2:=hs q h1
 refine dW.2 ⟨q,⟨hp.le,fun v hv=>hp.r5 v (by rwa [aV (by decide)] at hv),fun v hv=>hp.r11 v (by rwa [aV (by decide)] at hv),fun v hv h6=>hp.e0 v (by rwa [aV (by decide)] at hv) (by rwa [aV (by decide)] at h6),fun v hv h12=>hp.e6 v (by rwa [aV (by decide)] at hv) (by rwa [aV (by decide)] at h12),fun v hv=>hp.e12 v (by rwa [aV (by decide)] at hv),fun v hv=>by rw[aV (by decide)] at hv ⊢;exact hp.e13 v hv⟩,?_⟩
 have e2:jB E (kL f 14 (.pointer (some ⟨g,0,none⟩))) q=jB E f q:=by unfold jB;rw[aV (by decide)]
 rw[e2,Bv gK]
 have h3:Sat W w' (sep (ex fun g':Nat=>sep (fact (Value.pointer (some ⟨g,0,none⟩)=.pointer (some ⟨g',0,none⟩))) (blk g' (.cells #[.int .i64 0,.int .i64 0,.slice none 0 0,.slice none 0 0] t (0,0)))) (sep (kn q.J) (sep (jB E f q) Z))):=by
  rw[dG,Sat.ex]
  exact⟨g,by rw[aj];exact Sat.fact.2 ⟨rfl,h2⟩⟩
 exact (Sat.q2 h3)
theorem Ja {W w':World} {E:Nat} {t:TypeId} {J0:Mem} {pa pb:List Fm} {Z:aH} {f:Nat→Option Value} {x:Nat} {a':Option Addr} {n' c':Nat} {us':List Value} (hx:x=6∨x=12) {q:vW} (hp:I9 J0 pa pb f q) {v0:Value} (h0:f 0=some v0)
 (h6:x=6→f 12=none∧n'=pa.length∧(rF.rows 4).rel q.J us' pa) (h13:f 13=none) (h12:x=12→(f 6).isSome=true∧n'=pa.length+pb.length∧(rF.rows 4).rel q.J us' (pa++pb))
 (h:Sat W w' (sep (aN E 4 a' n' c' us') (sep (kn q.J) (sep (iZ t f) Z)))):Sat W w' (pairT E t J0 pa pb Z (kL f x (.slice a' n' c'))):=by
 have x0:(0:Nat)≠x:=by rcases hx with rfl|rfl<;>decide
 have x5:(5:Nat)≠x:=by rcases hx with rfl|rfl<;>decide
 have x11:(11:Nat)≠x:=by rcases hx with rfl|rfl<;>decide
 have x14:(14:Nat)≠x:=by rcases hx with rfl|rfl<;>decide
 have x13:(13:Nat)≠x:=by rcases hx with rfl|rfl<;>decide
 refine dW.2 ⟨⟨q.J,us',a',n',c'⟩,⟨hp.le,fun v hv=>hp.r5 v (by rwa [aV x5] at hv),fun v hv=>hp.r11 v (by rwa [aV x11] at hv),fun v hv e6=>?_,fun v hv e12=>?_,fun v hv=>?_,fun v hv=>by rw[aV x13,h13] at hv;cases hv⟩,?_⟩
 ·rcases hx with rfl|rfl
  ·rw[gK] at e6;cases e6
  ·rw[aV (by decide)] at e6
   have:=(h12 rfl).1
   rw[e6] at this;cases this
 ·rcases hx with rfl|rfl
  ·rw[gK] at hv;cases hv
   exact⟨rfl,(h6 rfl).2.1,(h6 rfl).2.2⟩
  ·rw[gK] at e12;cases e12
 ·rcases hx with rfl|rfl
  ·rw[aV (by decide),(h6 rfl).1] at hv;cases hv
  ·rw[gK] at hv;cases hv
   exact⟨rfl,(h12 rfl).2.1,(h12 rfl).2.2⟩
 ·have e1:iZ t (kL f x (.slice a' n' c'))=iZ t f:=by unfold iZ;rw[aV x14]
  have e2:jB E (kL f x (.slice a' n' c')) ⟨q.J,us',a',n',c'⟩=aN E 4 a' n' c' us':=l9 (v:=v0) (by rw[aV x0];exact h0)
  rw[e1,e2]
  exact h.p1
theorem VF {W w:World} {E:Nat} {t:TypeId} {J0:Mem} {pa pb:List Fm} {Z:aH} {f:Nat→Option Value} {u:Value} (h12:f 12=some u) (h:Sat W w (pairT E t J0 pa pb Z f)):
 Sat W w (pairT E t J0 pa pb Z (kL f 13 (.agg #[.int .i64 4,.int .i64 0,.slice none 0 0,u]))):=by
 obtain⟨q,hp,h1⟩:=dW.1 h
 refine dW.2 ⟨q,⟨hp.le,fun v hv=>hp.r5 v (by rwa [aV (by decide)] at hv),fun v hv=>hp.r11 v (by rwa [aV (by decide)] at hv),fun v hv h6=>hp.e0 v (by rwa [aV (by decide)] at hv) (by rwa [aV (by decide)] at h6),fun v hv h12=>hp.e6 v (by rwa [aV (by decide)] at hv) (by rwa [aV (by decide)] at h12),fun v hv=>hp.e12 v (by rwa [aV (by decide)] at hv),fun v hv=>?_⟩,?_⟩
 ·rw[gK] at hv;cases hv
  exact⟨u,by rw[aV (by decide)];exact h12,rfl⟩
 ·have e1:iZ t (kL f 13 (.agg #[.int .i64 4,.int .i64 0,.slice none 0 0,u]))=iZ t f:=by unfold iZ;rw[aV (by decide)]
  have e2:jB E (kL f 13 (.agg #[.int .i64 4,.int .i64 0,.slice none 0 0,u])) q=jB E f q:=by unfold jB;rw[aV (by decide)]
  rw[e1,e2]
  exact h1
theorem VG {W w:World} {A:aH} {g:Nat} {a b c d:Value} {t:TypeId} (h:Sat W w (sep (blk g (.cells #[a,b,c,d] t (0,0))) A)) (x y u v:Value):
 Sat W ((((w.setCell ⟨g,0,none⟩ x).setCell ⟨g,1,none⟩ y).setCell ⟨g,2,none⟩ u).setCell ⟨g,3,none⟩ v) (sep (blk g (.cells #[x,y,u,v] t (0,0))) A):=by
 have h1:=(((h.setCell 0 x).setCell 1 y).setCell 2 u).setCell 3 v
 simpa using h1
end PA

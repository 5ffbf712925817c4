/- Part of a proof. -/
import Derived.Test.YtgicfogmdfdjmaaGreatDoorGTitleHolds24
import Derived.Test.YtgicfogmdfdjmaaGreatDoorGTitleHolds12
import Derived.Deep.CutBlock
namespace PA
open Go Go.RowKit
theorem lD {α:Type} {R:Rep α} {k:Nat} {I:Mem} {c d:List Value} {xs ys:List α} (h:(R.rows k).rel I c xs) (h':(R.rows k).rel I d ys):(R.rows k).rel I (c++d) (xs++ys):=by
 obtain⟨c1,rfl,h1⟩:=h
 obtain⟨c2,rfl,h2⟩:=h'
 exact⟨c1++c2,by simp,h1.append h2⟩
theorem tH {α:Type} (R:Rep α) (k:Nat) (I:Mem):(R.rows k).rel I [] []:=⟨[],rfl,trivial⟩
theorem Px {I:Mem} {cs:List Value} {f:Fm} (h:rF.rel I cs f):∀u∈cs,u.oneCell'=true:=by
 obtain⟨o,n,i,k⟩:=f
 obtain⟨a,c,b,d,rfl,-,-⟩:=ig.1 h
 intro u hu
 simp only[List.mem_cons,List.not_mem_nil,or_false] at hu
 rcases hu with rfl|rfl|rfl|rfl<;>rfl
theorem zn {I:Mem}:∀{css:List (List Value)} {xs:List Fm},dX (fun c x=>rF.rel I c x∧c.length=4) css xs→∀u∈css.flatten,u.oneCell'=true
 | [],[],_,u,hu=>by cases hu
 | c::css,x::xs,h,u,hu=>by
  rw[List.flatten_cons,List.mem_append] at hu
  rcases hu with hu|hu
  ·exact Px h.1.1 u hu
  ·exact zn h.2 u hu
 | [],_::_,h,_,_=>h.elim
 | _::_,[],h,_,_=>h.elim
theorem uy {α:Type} {R:Rep α} {k:Nat} {I:Mem}:∀{css:List (List Value)} {xs:List α},dX (fun c x=>R.rel I c x∧c.length=k) css xs→css.flatten.length=xs.length*k
 | [],[],_=>by simp
 | c::css,x::xs,h=>by
  rw[List.flatten_cons,dI,h.1.2,uy h.2,List.length_cons,Nat.add_mul];omega
 | [],_::_,h=>h.elim
 | _::_,[],h=>h.elim
theorem tJ {I:Mem} {a:Option Addr} {n c:Nat} {l:List Fm} (h:(rF.slice 4).rel I [.slice a n c] l):
 ∃vs:List Value,vs.length=n*4∧(a=none→n=0)∧(∀u∈vs,u.oneCell'=true)∧(rF.rows 4).rel I vs l∧∀w',Ext I w'→∀b,a=some b→∀j u,vs[j]?=some u→w'.cell? (b.add j)=some u:=by
 obtain⟨a',c',cells,e,hsw,hc,hr⟩:=h
 simp only[List.cons.injEq,Value.slice.injEq,and_true] at e
 obtain⟨rfl,rfl,rfl⟩:=e
 obtain⟨css,rfl,h2⟩:=id hr
 exact⟨css.flatten,uy h2,fun e=>by have:=hsw.2.2 e;have:=hsw.1;omega,zn h2,hr,fun w' he=>vS hc he⟩
theorem pX {W w:World} {A:aG} {J:Mem} {E:Nat} {a:Option Addr} {n c:Nat} {vs:List Value} {xs:List Fm} (hr:(rF.rows 4).rel J vs xs) (hn:n=xs.length) (h:Sat W w (sep (aK E 4 a n c vs) (sep (kn J) A))):
 ∃J',Mem.le J J'∧(rF.slice 4).rel J' [.slice a n c] xs∧Sat W w (sep (kn J') A):=by
 have hsw:=h.fA
 obtain⟨J',hle,hJ,h9⟩:=h.dQ.learn
 exact⟨J',hle,⟨a,c,vs,by rw[hn],by rw[←hn];exact hsw,hJ,(rF.rows 4).mono hle hr⟩,h9⟩
theorem Fm.CU:∀f:Fm,f.iT.length≤f.size:=by
 intro f
 refine Fm.ind (P:=fun f=>f.iT.length≤f.size) (fun o n i k ih=>?_) f
 rw[Fm.iT,Fm.size]
 split
 ·have:(Fm.dV k).length≤Fm.sizes k:=by
   induction k with
   | nil=>simp[Fm.dV]
   | cons g k ihk=>
    rw[Fm.dV,Fm.sizes,dI]
    have h1:=ih g (List.mem_cons_self ..)
    have h2:=ihk fun f hf=>ih f (List.mem_cons_of_mem _ hf)
    omega
  omega
 ·simp
theorem Fm.FN (l:List Fm):(Fm.dV l).length≤Fm.sizes l:=by
 induction l with
 | nil=>simp[Fm.dV]
 | cons g l ih=>rw[Fm.dV,Fm.sizes,dI];have:=Fm.CU g;omega
theorem Fm.CX (l:List Fm) (i:Nat) {f:Fm} (h:l[i]?=some f):Fm.dV (l.take (i+1))=Fm.dV (l.take i)++Fm.iT f:=by
 obtain⟨hi,rfl⟩:=List.getElem?_eq_some_iff.1 h
 exact Fm.NR l i hi
end PA
namespace Go.Proofs.YtgicfogmdfdjmaaGreatDoor
open Go.RowKit PA
attribute [local go_sem ↓] kQ
attribute [local go_sem] OL
set_option maxRecDepth 100000 in
set_option maxHeartbeats 4000000 in
theorem Ie {W:World} (f:Fm):∀(w:World) (A:aG) (I:Mem) (p q:Int) (x1:Option Addr) (n1 c1:Nat) (x2:Option Addr) (n2 c2:Nat),rF.rel I [.int .i64 p,.int .i64 q,.slice x1 n1 c1,.slice x2 n2 c2] f→f.size≤pq→Sat W w (sep (kn I) A) →
 Calls Tryz.prog 197 #[.agg #[.int .i64 p,.int .i64 q,.slice x1 n1 c1,.slice x2 n2 c2]] w fun e w'=>∃(a:Option Addr) (n c:Nat) (J:Mem),e=.returned (.slice a n c)∧n=f.iT.length∧Mem.le I J∧(rF.slice 4).rel J [.slice a n c] f.iT∧Sat W w' (sep (kn J) A):=by
 refine Fm.ind (P:=fun f=>∀(w:World) (A:aG) (I:Mem) (p q:Int) (x1:Option Addr) (n1 c1:Nat) (x2:Option Addr) (n2 c2:Nat),rF.rel I [.int .i64 p,.int .i64 q,.slice x1 n1 c1,.slice x2 n2 c2] f→f.size≤pq→Sat W w (sep (kn I) A) →
  Calls Tryz.prog 197 #[.agg #[.int .i64 p,.int .i64 q,.slice x1 n1 c1,.slice x2 n2 c2]] w fun e w'=>∃(a:Option Addr) (n c:Nat) (J:Mem),e=.returned (.slice a n c)∧n=f.iT.length∧Mem.le I J∧(rF.slice 4).rel J [.slice a n c] f.iT∧Sat W w' (sep (kn J) A)) (fun o n i k ih=>?_) f
 intro w A I p q x1 n1 c1 x2 n2 c2 hr hsz h
 have hr0:=hr
 obtain⟨x1',c1',x2',c2',e,hi,hk⟩:=ig.1 hr
 simp only[List.cons.injEq,Value.int.injEq,Value.slice.injEq,true_and,and_true] at e
 obtain⟨rfl,rfl,⟨rfl,rfl,rfl⟩,⟨rfl,rfl,rfl⟩⟩:=e
 have h1:=h.alloc (.cells #[.int .i64 p,.int .i64 q,.slice x1 i.length c1,.slice x2 k.length c2] 65)
 obtain⟨nk,hnk⟩:=aC (k.length)
 obtain⟨ni,hni⟩:=aC (i.length)
 have yC:=(aU hk).2.2
 have HIH:=ah ih
 rw[←hnk,←hni] at hr0
 rw[←hnk] at hk yC h1 ⊢
 rw[←hni] at h1 ⊢
 obtain⟨B,hB⟩:=aC (w.heap.size)
 obtain⟨w1,hw1⟩:=aC (w.alloc (.cells #[.int .i64 p,.int .i64 q,.slice x1 ni c1,.slice x2 nk c2] 65))
 rw[←hB,←hw1] at h1
 have HB:=ah (And.intro hB hw1)
 have H1:=ah h1
 obtain⟨k0,k1,k2,k3⟩:=Et h1
 have HR:=ah (And.intro hr0 (And.intro hk (And.intro hnk hsz)))
 clear hr hr0 hsz h hi hk h1 hB hw1 hnk hni ih
 by_cases o5:p=5
 ·subst o5
  have Vx:Hid (∀r,r=Fm.dV k→r=(Fm.mk 5 q i k).iT):=ah (fun r e=>by rw[e,Fm.iT,if_pos rfl])
  have Vy:Fm.sizes k≤1000000:=by have:=HR.out.2.2.2;rw[Fm.size] at this;unfold pq at this;omega
  have GK:=ah Vy
  clear Vy
  go_enter Tryz.func197,Tryz.ntmps197
  go_upto_region 1 with (fail)
  rw[←HB.out.1,←HB.out.2]
  go_upto_region 4 with (fail)
  clear k0 k1 k2 k3
  go_wp2_with fail
  go_loopw [3,4] (fun ov iv wr=>∃(j m d:Nat) (b:Option Addr) (vs:List Value) (J:Mem),ov=.slice b m d∧iv=.int .i64 j∧j≤nk∧m≤1000000∧Hid (m=(Fm.dV (k.take j)).length∧Mem.le I J∧(rF.rows 4).rel J vs (Fm.dV (k.take j)))∧Sat W wr (sep (aK 65 4 b m d vs) (sep (kn J) (sep (blk B (.cells #[.int .i64 5,.int .i64 q,.slice x1 ni c1,.slice x2 nk c2] 65 (0,0))) A)))) (fun _ iv _=>nk-(intOf iv).toNat)
  case atStart=>exact⟨0,0,0,none,[],I,rfl,rfl,by omega,by omega,ah ⟨by simp[Fm.dV],Mem.le_refl _,by simp only[List.take_zero,Fm.dV];exact tH _ _ _⟩,(H1.out.p1).cZ 65 4⟩
  case round=>
   obtain⟨j,m,d,b,vs,J,rfl,rfl,hj,hm6,HV,hS⟩:=hrel
   obtain⟨-,-,-,k3⟩:=Et hS.p2
   by_cases hlt:j<nk
   ·have hltz:(j:Int)<(nk:Int):=by omega
    obtain⟨g,hg⟩:∃g,k[j]?=some g:=⟨_,List.getElem?_eq_getElem (by have:=HR.out.2.2.1;omega)⟩
    obtain⟨b2,o2,p',q',y1,m1,d1,y2,m2,d2,rfl,hgr,hcell⟩:=kU HR.out.2.1 hg
    have hmem:g∈k:=List.mem_of_getElem? hg
    have hgJ:=rF.mono HV.out.2.1 hgr
    obtain⟨j0,j1,j2,j3⟩:=hcell wr (fun i o hb=>hS.p1.ext i o (HV.out.2.1 i o hb))
    have htk:=Fm.CX k j hg
    have hgs:=Fm.tC hmem
    have hrec:=HIH.out g hmem wr _ J p' q' y1 m1 d1 y2 m2 d2 hgJ (by have:=GK.out;unfold pq;omega) hS.p1
    have Vz:(Fm.dV (k.take (j+1))).length≤1000000:=by have h1:=Fm.FN (k.take (j+1));have h2:=Fm.CQ k (j+1);have:=GK.out;omega
    have OQ:=ah hrec
    have HT:=ah (And.intro htk Vz)
    have HL:=ah hlt
    clear hgr hcell hmem hgJ htk hgs hrec hg hS hlt hj Vz H1
    go_upto_region 7 with (fail)
    go_wp2_with fail
    refine OQ.out.mono ?_
    rintro e w2 ⟨a3,n3,c3,J3,rfl,hn3,hle3,hr3,h2⟩
    obtain⟨us,Gx,hu0,hu1,hur,nG⟩:=tJ hr3
    have hmn:m+n3≤1000000:=by have:=HT.out.2;rw[HT.out.1,dI,←HV.out.1,←hn3] at this;exact this
    have HU:=ah (And.intro Gx (And.intro hu0 (And.intro hu1 (And.intro hur (nG w2 h2.ext)))))
    have HN:=ah (And.intro hmn (And.intro hn3 hle3))
    have H2:=ah (show Sat W w2 (sep (aK 65 4 b m d vs) (sep (kn J3) (sep (blk B (.cells #[.int .i64 5,.int .i64 q,.slice x1 ni c1,.slice (some ⟨b2,o2,none⟩) nk c2] 65 (0,0))) A))) from h2.p1)
    clear h2 Gx hu0 hu1 hur nG hmn hn3 hle3 hr3 OQ j0 j1 j2 j3 k3
    go_wp2_with (at_builtin;go_loud (refine aJ rfl _ _ 58 rfl 65 4 64 _ Tryz.underlying58 mF rfl rfl H2.out rfl us HU.out.1 HU.out.2.1 HU.out.2.2.2.2 HU.out.2.2.1 (by have:=HN.out.1;omega) (by unfold maxLen;have:=HN.out.1;omega) ?_))
    intro a4 c4 w4 h4
    have H4:=ah h4
    clear h4 H2
    go_wp2
    go_roundw
    case rel=>exact⟨j+1,m+n3,c4,a4,vs++us,J3,rfl,by go_num,by have:=HL.out;omega,HN.out.1,ah ⟨by rw[HT.out.1,dI,←HV.out.1,←HN.out.2.1],Mem.le_trans HV.out.2.1 HN.out.2.2,by rw[HT.out.1];exact lD ((rF.rows 4).mono HN.out.2.2 HV.out.2.2) HU.out.2.2.2.1⟩,H4.out⟩
    case measure=>simp[intOf];have:=HL.out;omega
   ·obtain rfl:j=nk:=by omega
    obtain⟨hv1,hv2,hv3⟩:=HV.out
    rw[List.take_of_length_le (by have:=HR.out.2.2.1;omega)] at hv1 hv3
    obtain⟨J',hle',hr',h'⟩:=pX hv3 hv1 hS
    have HF:=ah (And.intro hv1 (And.intro (Mem.le_trans hv2 hle') (And.intro hr' h'.p1.drop)))
    clear hS hv1 hv2 hv3 hle' hr' h' H1
    go_wp2
    go_ret
    rw[←Vx.out _ rfl]
    exact⟨b,m,d,J',rfl,HF.out.1,HF.out.2.1,HF.out.2.2.1,HF.out.2.2.2⟩
 ·have Vx:Hid ((Fm.mk p q i k).iT=[Fm.mk p q i k]):=ah (by rw[Fm.iT,if_neg o5])
  have o5':(p !=5)=true:=by simpa using o5
  have h5:=H1.out.alloc (.cells #[.int .i64 p,.int .i64 q,.slice x1 ni c1,.slice x2 nk c2] 65)
  obtain⟨J',hle',hr',h6⟩:=uM (R:=rF) (k:=4) (show Sat W w1 (sep (kn I) (sep (blk B (.cells #[.int .i64 p,.int .i64 q,.slice x1 ni c1,.slice x2 nk c2] 65 (0,0))) A)) from H1.out.p1) [.int .i64 p,.int .i64 q,.slice x1 ni c1,.slice x2 nk c2] [Fm.mk p q i k] 65 (jS HR.out.1 rfl) (by simp[maxLen])
  have HF:=ah (And.intro hle' (And.intro hr' h6.p1.drop))
  clear h5 hle' hr' h6 o5
  go_enter Tryz.func197,Tryz.ntmps197
  go_upto_region 1 with (fail)
  rw[←HB.out.1,←HB.out.2]
  go_wp2
  go_ret
  rw[Vx.out]
  exact⟨_,_,_,J',rfl,rfl,HF.out.1,HF.out.2.1,HF.out.2.2⟩
set_option maxRecDepth 100000 in
set_option maxHeartbeats 4000000 in
theorem Ew {W:World} (f:Fm):∀(w:World) (A:aG) (I:Mem) (p q:Int) (x1:Option Addr) (n1 c1:Nat) (x2:Option Addr) (n2 c2:Nat),rF.rel I [.int .i64 p,.int .i64 q,.slice x1 n1 c1,.slice x2 n2 c2] f→f.size≤pq→Sat W w (sep (kn I) A) →
 Calls Tryz.prog 178 #[.agg #[.int .i64 p,.int .i64 q,.slice x1 n1 c1,.slice x2 n2 c2]] w fun e w'=>∃(a:Option Addr) (n c:Nat) (J:Mem),e=.returned (.slice a n c)∧n=f.iT.length∧Mem.le I J∧(rF.slice 4).rel J [.slice a n c] f.iT∧Sat W w' (sep (kn J) A):=by
 refine Fm.ind (P:=fun f=>∀(w:World) (A:aG) (I:Mem) (p q:Int) (x1:Option Addr) (n1 c1:Nat) (x2:Option Addr) (n2 c2:Nat),rF.rel I [.int .i64 p,.int .i64 q,.slice x1 n1 c1,.slice x2 n2 c2] f→f.size≤pq→Sat W w (sep (kn I) A) →
  Calls Tryz.prog 178 #[.agg #[.int .i64 p,.int .i64 q,.slice x1 n1 c1,.slice x2 n2 c2]] w fun e w'=>∃(a:Option Addr) (n c:Nat) (J:Mem),e=.returned (.slice a n c)∧n=f.iT.length∧Mem.le I J∧(rF.slice 4).rel J [.slice a n c] f.iT∧Sat W w' (sep (kn J) A)) (fun o n i k ih=>?_) f
 intro w A I p q x1 n1 c1 x2 n2 c2 hr hsz h
 have hr0:=hr
 obtain⟨x1',c1',x2',c2',e,hi,hk⟩:=ig.1 hr
 simp only[List.cons.injEq,Value.int.injEq,Value.slice.injEq,true_and,and_true] at e
 obtain⟨rfl,rfl,⟨rfl,rfl,rfl⟩,⟨rfl,rfl,rfl⟩⟩:=e
 have h1:=h.alloc (.cells #[.int .i64 p,.int .i64 q,.slice x1 i.length c1,.slice x2 k.length c2] 65)
 obtain⟨nk,hnk⟩:=aC (k.length)
 obtain⟨ni,hni⟩:=aC (i.length)
 have yC:=(aU hk).2.2
 have HIH:=ah ih
 rw[←hnk,←hni] at hr0
 rw[←hnk] at hk yC h1 ⊢
 rw[←hni] at h1 ⊢
 obtain⟨B,hB⟩:=aC (w.heap.size)
 obtain⟨w1,hw1⟩:=aC (w.alloc (.cells #[.int .i64 p,.int .i64 q,.slice x1 ni c1,.slice x2 nk c2] 65))
 rw[←hB,←hw1] at h1
 have HB:=ah (And.intro hB hw1)
 have H1:=ah h1
 obtain⟨k0,k1,k2,k3⟩:=Et h1
 have HR:=ah (And.intro hr0 (And.intro hk (And.intro hnk hsz)))
 clear hr hr0 hsz h hi hk h1 hB hw1 hnk hni ih
 by_cases o5:p=5
 ·subst o5
  have Vx:Hid (∀r,r=Fm.dV k→r=(Fm.mk 5 q i k).iT):=ah (fun r e=>by rw[e,Fm.iT,if_pos rfl])
  have Vy:Fm.sizes k≤1000000:=by have:=HR.out.2.2.2;rw[Fm.size] at this;unfold pq at this;omega
  have GK:=ah Vy
  clear Vy
  go_enter Tryz.func178,Tryz.ntmps178
  go_upto_region 1 with (fail)
  rw[←HB.out.1,←HB.out.2]
  go_upto_region 4 with (fail)
  clear k0 k1 k2 k3
  go_wp2_with fail
  go_loopw [3,4] (fun ov iv wr=>∃(j m d:Nat) (b:Option Addr) (vs:List Value) (J:Mem),ov=.slice b m d∧iv=.int .i64 j∧j≤nk∧m≤1000000∧Hid (m=(Fm.dV (k.take j)).length∧Mem.le I J∧(rF.rows 4).rel J vs (Fm.dV (k.take j)))∧Sat W wr (sep (aK 65 4 b m d vs) (sep (kn J) (sep (blk B (.cells #[.int .i64 5,.int .i64 q,.slice x1 ni c1,.slice x2 nk c2] 65 (0,0))) A)))) (fun _ iv _=>nk-(intOf iv).toNat)
  case atStart=>exact⟨0,0,0,none,[],I,rfl,rfl,by omega,by omega,ah ⟨by simp[Fm.dV],Mem.le_refl _,by simp only[List.take_zero,Fm.dV];exact tH _ _ _⟩,(H1.out.p1).cZ 65 4⟩
  case round=>
   obtain⟨j,m,d,b,vs,J,rfl,rfl,hj,hm6,HV,hS⟩:=hrel
   obtain⟨-,-,-,k3⟩:=Et hS.p2
   by_cases hlt:j<nk
   ·have hltz:(j:Int)<(nk:Int):=by omega
    obtain⟨g,hg⟩:∃g,k[j]?=some g:=⟨_,List.getElem?_eq_getElem (by have:=HR.out.2.2.1;omega)⟩
    obtain⟨b2,o2,p',q',y1,m1,d1,y2,m2,d2,rfl,hgr,hcell⟩:=kU HR.out.2.1 hg
    have hmem:g∈k:=List.mem_of_getElem? hg
    have hgJ:=rF.mono HV.out.2.1 hgr
    obtain⟨j0,j1,j2,j3⟩:=hcell wr (fun i o hb=>hS.p1.ext i o (HV.out.2.1 i o hb))
    have htk:=Fm.CX k j hg
    have hgs:=Fm.tC hmem
    have hrec:=HIH.out g hmem wr _ J p' q' y1 m1 d1 y2 m2 d2 hgJ (by have:=GK.out;unfold pq;omega) hS.p1
    have Vz:(Fm.dV (k.take (j+1))).length≤1000000:=by have h1:=Fm.FN (k.take (j+1));have h2:=Fm.CQ k (j+1);have:=GK.out;omega
    have OQ:=ah hrec
    have HT:=ah (And.intro htk Vz)
    have HL:=ah hlt
    clear hgr hcell hmem hgJ htk hgs hrec hg hS hlt hj Vz H1
    go_upto_region 7 with (fail)
    go_wp2_with fail
    refine OQ.out.mono ?_
    rintro e w2 ⟨a3,n3,c3,J3,rfl,hn3,hle3,hr3,h2⟩
    obtain⟨us,Gx,hu0,hu1,hur,nG⟩:=tJ hr3
    have hmn:m+n3≤1000000:=by have:=HT.out.2;rw[HT.out.1,dI,←HV.out.1,←hn3] at this;exact this
    have HU:=ah (And.intro Gx (And.intro hu0 (And.intro hu1 (And.intro hur (nG w2 h2.ext)))))
    have HN:=ah (And.intro hmn (And.intro hn3 hle3))
    have H2:=ah (show Sat W w2 (sep (aK 65 4 b m d vs) (sep (kn J3) (sep (blk B (.cells #[.int .i64 5,.int .i64 q,.slice x1 ni c1,.slice (some ⟨b2,o2,none⟩) nk c2] 65 (0,0))) A))) from h2.p1)
    clear h2 Gx hu0 hu1 hur nG hmn hn3 hle3 hr3 OQ j0 j1 j2 j3 k3
    go_wp2_with (at_builtin;go_loud (refine aJ rfl _ _ 58 rfl 65 4 64 _ Tryz.underlying58 mF rfl rfl H2.out rfl us HU.out.1 HU.out.2.1 HU.out.2.2.2.2 HU.out.2.2.1 (by have:=HN.out.1;omega) (by unfold maxLen;have:=HN.out.1;omega) ?_))
    intro a4 c4 w4 h4
    have H4:=ah h4
    clear h4 H2
    go_wp2
    go_roundw
    case rel=>exact⟨j+1,m+n3,c4,a4,vs++us,J3,rfl,by go_num,by have:=HL.out;omega,HN.out.1,ah ⟨by rw[HT.out.1,dI,←HV.out.1,←HN.out.2.1],Mem.le_trans HV.out.2.1 HN.out.2.2,by rw[HT.out.1];exact lD ((rF.rows 4).mono HN.out.2.2 HV.out.2.2) HU.out.2.2.2.1⟩,H4.out⟩
    case measure=>simp[intOf];have:=HL.out;omega
   ·obtain rfl:j=nk:=by omega
    obtain⟨hv1,hv2,hv3⟩:=HV.out
    rw[List.take_of_length_le (by have:=HR.out.2.2.1;omega)] at hv1 hv3
    obtain⟨J',hle',hr',h'⟩:=pX hv3 hv1 hS
    have HF:=ah (And.intro hv1 (And.intro (Mem.le_trans hv2 hle') (And.intro hr' h'.p1.drop)))
    clear hS hv1 hv2 hv3 hle' hr' h' H1
    go_wp2
    go_ret
    rw[←Vx.out _ rfl]
    exact⟨b,m,d,J',rfl,HF.out.1,HF.out.2.1,HF.out.2.2.1,HF.out.2.2.2⟩
 ·have Vx:Hid ((Fm.mk p q i k).iT=[Fm.mk p q i k]):=ah (by rw[Fm.iT,if_neg o5])
  have o5':(p !=5)=true:=by simpa using o5
  have h5:=H1.out.alloc (.cells #[.int .i64 p,.int .i64 q,.slice x1 ni c1,.slice x2 nk c2] 65)
  obtain⟨J',hle',hr',h6⟩:=uM (R:=rF) (k:=4) (show Sat W w1 (sep (kn I) (sep (blk B (.cells #[.int .i64 p,.int .i64 q,.slice x1 ni c1,.slice x2 nk c2] 65 (0,0))) A)) from H1.out.p1) [.int .i64 p,.int .i64 q,.slice x1 ni c1,.slice x2 nk c2] [Fm.mk p q i k] 65 (jS HR.out.1 rfl) (by simp[maxLen])
  have HF:=ah (And.intro hle' (And.intro hr' h6.p1.drop))
  clear h5 hle' hr' h6 o5
  go_enter Tryz.func178,Tryz.ntmps178
  go_upto_region 1 with (fail)
  rw[←HB.out.1,←HB.out.2]
  go_wp2
  go_ret
  rw[Vx.out]
  exact⟨_,_,_,J',rfl,rfl,HF.out.1,HF.out.2.1,HF.out.2.2⟩
set_option maxHeartbeats 2000000 in
theorem uD {W w:World} {A:aG} {I:Mem} (f:Fm) (p q:Int) (x1:Option Addr) (n1 c1:Nat) (x2:Option Addr) (n2 c2:Nat) (hr:rF.rel I [.int .i64 p,.int .i64 q,.slice x1 n1 c1,.slice x2 n2 c2] f) (h:Sat W w (sep (kn I) A)):
 Calls Tryz.prog 198 #[.agg #[.int .i64 p,.int .i64 q,.slice x1 n1 c1,.slice x2 n2 c2]] w fun e w'=>∃(a:Option Addr) (n c:Nat) (J:Mem),e=.returned (.slice a n c)∧n=f.parts.length∧Mem.le I J∧(rF.slice 4).rel J [.slice a n c] f.parts∧Sat W w' (sep (kn J) A):=by
 obtain⟨o,n,i,k⟩:=f
 have hr0:=hr
 obtain⟨x1',c1',x2',c2',e,hi,hk⟩:=ig.1 hr
 simp only[List.cons.injEq,Value.int.injEq,Value.slice.injEq,true_and,and_true] at e
 obtain⟨rfl,rfl,⟨rfl,rfl,rfl⟩,⟨rfl,rfl,rfl⟩⟩:=e
 have h1:=h.alloc (.cells #[.int .i64 p,.int .i64 q,.slice x1 i.length c1,.slice x2 k.length c2] 65)
 obtain⟨nk,hnk⟩:=aC (k.length)
 obtain⟨ni,hni⟩:=aC (i.length)
 rw[←hnk,←hni] at hr0
 rw[←hnk] at hk h1 ⊢
 rw[←hni] at h1 ⊢
 obtain⟨B,hB⟩:=aC (w.heap.size)
 obtain⟨w1,hw1⟩:=aC (w.alloc (.cells #[.int .i64 p,.int .i64 q,.slice x1 ni c1,.slice x2 nk c2] 65))
 rw[←hB,←hw1] at h1
 have HB:=ah (And.intro hB hw1)
 have H1:=ah h1
 obtain⟨k0,k1,k2,k3⟩:=Et h1
 have HR:=ah (And.intro hr0 (And.intro hk hnk))
 clear hr hr0 h hi hk h1 hB hw1 hnk hni
 by_cases o4:p=4
 ·subst o4
  have Vx:Hid ((Fm.mk 4 q i k).parts=k):=ah (show (if (4:Int)=4 then k else [Fm.mk 4 q i k])=k from if_pos rfl)
  go_enter Tryz.func198,Tryz.ntmps198
  go_upto_region 1 with (fail)
  rw[←HB.out.1,←HB.out.2]
  go_wp2
  go_ret
  rw[Vx.out]
  exact⟨_,_,_,I,rfl,HR.out.2.2,Mem.le_refl _,HR.out.2.1,H1.out.drop⟩
 ·have Vx:Hid ((Fm.mk p q i k).parts=[Fm.mk p q i k]):=ah (show (if p=4 then k else [Fm.mk p q i k])=[Fm.mk p q i k] from if_neg o4)
  have o4':(p==4)=false:=by simpa using o4
  obtain⟨J',hle',hr',h6⟩:=uM (R:=rF) (k:=4) (show Sat W w1 (sep (kn I) (sep (blk B (.cells #[.int .i64 p,.int .i64 q,.slice x1 ni c1,.slice x2 nk c2] 65 (0,0))) A)) from H1.out.p1) [.int .i64 p,.int .i64 q,.slice x1 ni c1,.slice x2 nk c2] [Fm.mk p q i k] 65 (jS HR.out.1 rfl) (by simp[maxLen])
  have HF:=ah (And.intro hle' (And.intro hr' h6.p1.drop))
  clear hle' hr' h6 o4
  go_enter Tryz.func198,Tryz.ntmps198
  go_upto_region 1 with (fail)
  rw[←HB.out.1,←HB.out.2]
  go_wp2
  go_ret
  rw[Vx.out]
  exact⟨_,_,_,J',rfl,rfl,HF.out.1,HF.out.2.1,HF.out.2.2⟩
end Go.Proofs.YtgicfogmdfdjmaaGreatDoor
namespace PA
open Go
theorem wQ {f:Fm} (h:qO f=0):f.size≤96:=by
 unfold qO Fm.valid at h
 split at h
 ·cases h
 ·omega
theorem FP:∀(f g:Fm),g∈f.iT→g.size≤f.size:=by
 intro f
 refine Fm.ind (P:=fun f=>∀g,g∈f.iT→g.size≤f.size) (fun o n i k ih g hg=>?_) f
 rw[Fm.iT] at hg
 split at hg
 ·have key:∀(l:List Fm),(∀f∈l,∀g,g∈f.iT→g.size≤f.size)→g∈Fm.dV l→g.size≤Fm.sizes l:=by
   intro l
   induction l with
   | nil=>intro _ h;simp[Fm.dV] at h
   | cons x l ihl=>
    intro h1 h2
    rw[Fm.dV,List.mem_append] at h2
    rw[Fm.sizes]
    rcases h2 with h2|h2
    ·have:=h1 x (List.mem_cons_self ..) g h2;omega
    ·have:=ihl (fun f hf=>h1 f (List.mem_cons_of_mem _ hf)) h2;omega
  have:=key k ih hg
  rw[Fm.size];omega
 ·rw[List.mem_singleton.1 hg];exact Nat.le_refl _
theorem pY (f:Fm):Fm.sizes f.parts≤f.size:=by
 obtain⟨o,n,i,k⟩:=f
 unfold Fm.parts
 split
 ·show Fm.sizes k≤_;rw[Fm.size];omega
 ·simp[Fm.sizes]
theorem Ig (a b:List Fm):Fm.sizes (a++b)=Fm.sizes a+Fm.sizes b:=by
 induction a with
 | nil=>simp[Fm.sizes]
 | cons g a ih=>rw[List.cons_append,Fm.sizes,Fm.sizes,ih];omega
theorem NZ (a b:Fm):(lu a b).size≤a.size+b.size+1:=by
 unfold lu
 rw[Fm.size,Ig]
 have:=pY a;have:=pY b;omega
theorem CY:∀{x t y:List Fm},fU x t=some y→∀f∈y,qO f=0
 | [],t,y,h,f,hf=>by cases h;cases hf
 | a::x,t,y,h,f,hf=>by
  unfold fU at h
  split at h
  ·rename_i hall
   cases hc:fU x t with
   | none=>rw[hc] at h;cases h
   | some z=>
    rw[hc] at h
    cases h
    rcases List.mem_append.1 hf with hf|hf
    ·obtain⟨b,hb,rfl⟩:=List.mem_map.1 hf
     have:=List.all_eq_true.1 hall b hb
     simpa using this
    ·exact CY hc f hf
  ·cases h
theorem zo {of:Nat→Option (List Fm)} {own:List Fm}:∀{rs:List Int} {out y:List Fm},(∀f∈out,qO f=0)→iO of own rs out=some y→∀f∈y,qO f=0
 | [],out,y,h0,h=>by cases h;exact h0
 | r::rs,out,y,h0,h=>by
  unfold iO at h
  split at h
  ·cases h
  ·split at h
   ·cases h
   ·split at h
    ·cases h
    ·rename_i z hz
     exact zo (fun f hf=>(List.mem_append.1 hf).elim (h0 f) (CY hz f)) h
theorem Py {l:List Cl} {k:Nat} {c:Cl} (h:l[k]?=some c):lX l k=NS (fun r=>if r<k then lX l r else none) c:=by
 rw[lX,h]
theorem Q5 {l:List Cl} (hok:Cj l=0) {k:Nat} {y:List Fm} (h:lX l k=some y):∀f∈y,f.size≤96:=by
 intro f hf
 cases hc:l[k]? with
 | none=>rw[lX,hc] at h;cases h
 | some c=>
  rw[Py hc] at h
  obtain⟨hk,hcl⟩:=List.getElem?_eq_some_iff.1 hc
  have hb:=((NQ hok).2 k hk).2.2
  rw[hcl] at hb
  unfold NS at h
  split at h
  ·split at h
   ·cases h
    have:=FP c.body f hf
    have:=wQ hb
    omega
   ·cases h
  ·exact wQ (zo (fun f hf=>by cases hf) h f hf)
def FQ (t:List Fm) (a:Fm):Bool:=t.all fun b=>decide (qO (lu a b)=0)
theorem zq:∀(x t:List Fm) (a:Fm),fU (x++[a]) t=match fU x t with|none=>none|some y=>if FQ t a=true then some (y++t.map (lu a)) else none
 | [],t,a=>by
  show fU [a] t=_
  unfold fU FQ
  split
  ·rename_i h;simp[fU]
  ·rfl
 | z::x,t,a=>by
  rw[List.cons_append]
  unfold fU
  by_cases hz:(t.all fun b=>decide (qO (lu z b)=0))=true
  ·rw[if_pos hz,if_pos hz,zq x t a]
   cases fU x t with
   | none=>rfl
   | some y=>
    simp only[Option.map_some]
    by_cases ha:FQ t a=true
    ·rw[if_pos ha,if_pos ha,Option.map_some,List.append_assoc]
    ·rw[if_neg ha,if_neg ha];rfl
  ·rw[if_neg hz,if_neg hz]
theorem KI {x t:List Fm} {i:Nat} {a:Fm} (h:x[i]?=some a) {y:List Fm} (hy:fU (x.take i) t=some y) (hr:FQ t a=true):fU (x.take (i+1)) t=some (y++t.map (lu a)):=by
 obtain⟨hi,rfl⟩:=List.getElem?_eq_some_iff.1 h
 rw[List.take_succ_eq_append_getElem hi,zq,hy]
 simp only[hr,if_true]
theorem CZ:∀{x t:List Fm} {a b:Fm},a∈x→b∈t→qO (lu a b)≠0→fU x t=none
 | [],_,_,_,h,_,_=>by cases h
 | z::x,t,a,b,ha,hb,hn=>by
  unfold fU
  rcases List.mem_cons.1 ha with rfl|ha
  ·rw[if_neg]
   intro hall
   have:=List.all_eq_true.1 hall b hb
   simp at this
   exact hn this
  ·split
   ·rw[CZ ha hb hn];rfl
   ·rfl
theorem VA {t:List Fm} {a:Fm} (h:∀(i:Nat) (b:Fm),t[i]?=some b→qO (lu a b)=0):FQ t a=true:=by
 unfold FQ
 rw[List.all_eq_true]
 intro b hb
 obtain⟨i,hi⟩:=List.mem_iff_getElem?.1 hb
 simpa using h i b hi
theorem N7 {of:Nat→Option (List Fm)} {own out:List Fm} {rs:List Int} {j:Nat} {r:Int} (h:rs[j]?=some r):iO of own (rs.drop j) out=match of r.toNat with
 | none=>none
 | some x=>if 64<out.length+x.length*own.length then none else match fU x own with|none=>none|some y=>iO of own (rs.drop (j+1)) (out++y):=by
 obtain⟨hj,rfl⟩:=List.getElem?_eq_some_iff.1 h
 rw[List.drop_eq_getElem_cons hj,iO]
 rfl
theorem KJ {of:Nat→Option (List Fm)} {own out:List Fm} {rs:List Int} {j:Nat} (h:rs.length≤j):iO of own (rs.drop j) out=some out:=by
 rw[List.drop_of_length_le h,iO]
end PA
namespace PA
open Go Go.RowKit
theorem um.mono {P:Program} {o:Oper} {a:Act} {w:World} {X Y:Value→World→Prop} (h:um P o a w X) (hxy:∀v w',X v w'→Y v w'):um P o a w Y:=by
 rcases h with ⟨v,w',h1,h2⟩|⟨f,args,w1,h1,h2⟩
 ·exact .inl ⟨v,w',h1,hxy v w' h2⟩
 ·exact .inr ⟨f,args,w1,h1,h2.mono fun e w' ⟨v,e1,h3⟩=>⟨v,e1,hxy v w' h3⟩⟩
theorem nX {P:Program} {W w:World} {A:aG} {o:Oper} {ac:Act} (s y:Operand) (t:TypeId) (ho:o.op=.call { callee:=.builtin .append,args:=#[s,y],argTypes:=#[t,t] })
 (E k IQ:Nat) (z:Value) (ht:P.underlying t=some (.slice E)) (hi:(P.info? E).map (fun i=>(i.zero,i.size,i.bytes))=some (some z,k,IQ)) (hzs:z.cells.size=k)
 {a:Option Addr} {n c:Nat} {xs:List Value} (hs:ac.eval s=.slice a n c) (h:Sat W w (sep (aK E k a n c xs) A))
 {x:Option Addr} {m cc:Nat} (hy:ac.eval y=.slice x m cc) (news:List Value) (hl:news.length=m*k) (hx0:x=none→m=0) (hx:∀b,x=some b→∀j u,news[j]?=some u→w.cell? (b.add j)=some u)
 (h1:∀u∈news,u.oneCell'=true) (hby:(n+m)*IQ≤140737488355328) (h63:n+m≤maxLen):
 um P o ac w fun v w'=>∃a' c',v=.slice a' (n+m) c'∧Sat W w' (sep (aK E k a' (n+m) c' (xs++news)) A):=by
 obtain⟨i,hi1,hi2,hi3,hi4⟩:=info_parts hi
 obtain⟨a',c',w',hr,hS⟩:=mV t o.type E k IQ i z ht hi1 hi2 hi3 hi4 hzs h x m cc news hl hx0 hx h1 h63 hby
 exact .inl ⟨_,w',rH s y t t ho (by rw[hs,hy];exact hr),a',c',rfl,hS⟩
structure wR where
 J:Mem
 us:List Value
 a:Option Addr
 n:Nat
 c:Nat
structure KL (J0:Mem) (pa pb:List Fm) (f:Nat→Option Value) (q:wR):Prop where
 le:Mem.le J0 q.J
 r5:∀v,f 5=some v→∃a n c,v=.slice a n c∧n=pa.length∧(rF.slice 4).rel q.J [.slice a n c] pa
 r11:∀v,f 11=some v→∃a n c,v=.slice a n c∧n=pb.length∧(rF.slice 4).rel q.J [.slice a n c] pb
 e0:∀v,f 0=some v→f 6=none→v=.slice q.a q.n q.c∧q.n=0∧q.us=[]
 e6:∀v,f 6=some v→f 12=none→v=.slice q.a q.n q.c∧q.n=pa.length∧(rF.rows 4).rel q.J q.us pa
 e12:∀v,f 12=some v→v=.slice q.a q.n q.c∧q.n=pa.length+pb.length∧(rF.rows 4).rel q.J q.us (pa++pb)
 e13:∀v,f 13=some v→∃u,f 12=some u∧v=.agg #[.int .i64 4,.int .i64 0,.slice none 0 0,u]
def jO (E:Nat) (f:Nat→Option Value) (q:wR):aG:=match f 0 with|some _=>aK E 4 q.a q.n q.c q.us|none=>emp
def jr (t:TypeId) (f:Nat→Option Value):aG:=match f 14 with|some v=>ex fun g:Nat=>sep (fact (v=.pointer (some ⟨g,0,none⟩))) (blk g (.cells #[.int .i64 0,.int .i64 0,.slice none 0 0,.slice none 0 0] t (0,0)))|none=>emp
def pairT (E:Nat) (t:TypeId) (J0:Mem) (pa pb:List Fm) (Z:aG) (f:Nat→Option Value):aG:=
 ex fun q:wR=>sep (fact (KL J0 pa pb f q)) (sep (kn q.J) (sep (jO E f q) (sep (jr t f) Z)))
theorem dY {W w:World} {E:Nat} {t:TypeId} {J0:Mem} {pa pb:List Fm} {Z:aG} {f:Nat→Option Value}:Sat W w (pairT E t J0 pa pb Z f)↔∃q,KL J0 pa pb f q∧Sat W w (sep (kn q.J) (sep (jO E f q) (sep (jr t f) Z))):=by
 unfold pairT
 rw[Sat.ex]
 exact⟨fun ⟨q,h⟩=>⟨q,Sat.fact.1 h⟩,fun ⟨q,h⟩=>⟨q,Sat.fact.2 h⟩⟩
theorem C9 {E:Nat} {f:Nat→Option Value} {q:wR} (h:f 0=none):jO E f q=emp:=by unfold jO;rw[h]
theorem nH {E:Nat} {f:Nat→Option Value} {q:wR} {v:Value} (h:f 0=some v):jO E f q=aK E 4 q.a q.n q.c q.us:=by unfold jO;rw[h]
theorem Dc {t:TypeId} {f:Nat→Option Value} (h:f 14=none):jr t f=emp:=by unfold jr;rw[h]
theorem Df {t:TypeId} {f:Nat→Option Value} {v:Value} (h:f 14=some v):jr t f=ex fun g:Nat=>sep (fact (v=.pointer (some ⟨g,0,none⟩))) (blk g (.cells #[.int .i64 0,.int .i64 0,.slice none 0 0,.slice none 0 0] t (0,0))):=by unfold jr;rw[h]
theorem pair_0 {W w w':World} {E:Nat} {t:TypeId} {J0:Mem} {pa pb:List Fm} {Z:aG} {f:Nat→Option Value} {g c:Nat} (h0:f 0=none) (h6:f 6=none) (h12:f 12=none)
 (hs:∀q:wR,KL J0 pa pb f q→Sat W w (sep (kn q.J) (sep (jr t f) Z))→Sat W w' (sep (aK E 4 (some ⟨g,0,none⟩) 0 c []) (sep (kn q.J) (sep (jr t f) Z)))) (h:Sat W w (pairT E t J0 pa pb Z f)):
 Sat W w' (pairT E t J0 pa pb Z (lg f 0 (.slice (some ⟨g,0,none⟩) 0 c))):=by
 obtain⟨q,hp,h1⟩:=dY.1 h
 rw[C9 h0,bU] at h1
 have h2:=hs q hp h1
 refine dY.2 ⟨⟨q.J,[],some ⟨g,0,none⟩,0,c⟩,⟨hp.le,fun v hv=>hp.r5 v (by rwa [aV (by decide)] at hv),fun v hv=>hp.r11 v (by rwa [aV (by decide)] at hv),fun v hv _=>?_,fun v hv _=>?_,fun v hv=>?_,fun v hv=>by rw[aV (by decide)] at hv ⊢;exact hp.e13 v hv⟩,?_⟩
 ·rw[gW] at hv;cases hv;exact⟨rfl,rfl,rfl⟩
 ·rw[aV (by decide),h6] at hv;cases hv
 ·rw[aV (by decide),h12] at hv;cases hv
 ·rw[nH gW]
  have e:jr t (lg f 0 (.slice (some ⟨g,0,none⟩) 0 c))=jr t f:=by unfold jr;rw[aV (by decide)]
  rw[e]
  exact h2.p1
theorem FT {W w':World} {E:Nat} {t:TypeId} {J0:Mem} {pa pb:List Fm} {Z:aG} {f:Nat→Option Value} {x:Nat} {v:Value} (hx:x≠0∧x≠6∧x≠12∧x≠14∧x≠13) {q:wR} {J':Mem} (hp:KL J0 pa pb f q) (hle:Mem.le q.J J')
 (h5:x=5→∃a n c,v=.slice a n c∧n=pa.length∧(rF.slice 4).rel J' [.slice a n c] pa) (h11:x=11→∃a n c,v=.slice a n c∧n=pb.length∧(rF.slice 4).rel J' [.slice a n c] pb)
 (h:Sat W w' (sep (kn J') (sep (jO E f q) (sep (jr t f) Z)))):Sat W w' (pairT E t J0 pa pb Z (lg f x v)):=by
 obtain⟨x0,x6,x12,x14,x13⟩:=hx
 refine dY.2 ⟨⟨J',q.us,q.a,q.n,q.c⟩,⟨Mem.le_trans hp.le hle,fun u hu=>?_,fun u hu=>?_,fun u hu h6=>?_,fun u hu h12=>?_,fun u hu=>?_,fun u hu=>by rw[aV (Ne.symm x13)] at hu;rw[aV (Ne.symm x12)];exact hp.e13 u hu⟩,?_⟩
 ·by_cases e:x=5
  ·subst e;rw[gW] at hu;cases hu;exact h5 rfl
  ·rw[aV (Ne.symm e)] at hu
   obtain⟨a,n,c,e1,e2,e3⟩:=hp.r5 u hu
   exact⟨a,n,c,e1,e2,(rF.slice 4).mono hle e3⟩
 ·by_cases e:x=11
  ·subst e;rw[gW] at hu;cases hu;exact h11 rfl
  ·rw[aV (Ne.symm e)] at hu
   obtain⟨a,n,c,e1,e2,e3⟩:=hp.r11 u hu
   exact⟨a,n,c,e1,e2,(rF.slice 4).mono hle e3⟩
 ·rw[aV (Ne.symm x0)] at hu
  rw[aV (Ne.symm x6)] at h6
  exact hp.e0 u hu h6
 ·rw[aV (Ne.symm x6)] at hu
  rw[aV (Ne.symm x12)] at h12
  obtain⟨e1,e2,e3⟩:=hp.e6 u hu h12
  exact⟨e1,e2,(rF.rows 4).mono hle e3⟩
 ·rw[aV (Ne.symm x12)] at hu
  obtain⟨e1,e2,e3⟩:=hp.e12 u hu
  exact⟨e1,e2,(rF.rows 4).mono hle e3⟩
 ·have e1:jr t (lg f x v)=jr t f:=by unfold jr;rw[aV (Ne.symm x14)]
  have e2:jO E (lg f x v) ⟨J',q.us,q.a,q.n,q.c⟩=jO E f q:=by unfold jO;rw[aV (Ne.symm x0)]
  rw[e1,e2]
  exact h
theorem YB {W w w':World} {E:Nat} {t:TypeId} {J0:Mem} {pa pb:List Fm} {Z:aG} {f:Nat→Option Value} {g:Nat} (DR:f 14=none)
 (hs:∀q:wR,Sat W w (sep (kn q.J) (sep (jO E f q) Z))→Sat W w' (sep (blk g (.cells #[.int .i64 0,.int .i64 0,.slice none 0 0,.slice none 0 0] t (0,0))) (sep (kn q.J) (sep (jO E f q) Z)))) (h:Sat W w (pairT E t J0 pa pb Z f)):
 Sat W w' (pairT E t J0 pa pb Z (lg f 14 (.pointer (some ⟨g,0,none⟩)))):=by
 obtain⟨q,hp,h1⟩:=dY.1 h
 rw[Dc DR,bU] at h1
 have h2:=hs q h1
 refine dY.2 ⟨q,⟨hp.le,fun v hv=>hp.r5 v (by rwa [aV (by decide)] at hv),fun v hv=>hp.r11 v (by rwa [aV (by decide)] at hv),fun v hv h6=>hp.e0 v (by rwa [aV (by decide)] at hv) (by rwa [aV (by decide)] at h6),fun v hv h12=>hp.e6 v (by rwa [aV (by decide)] at hv) (by rwa [aV (by decide)] at h12),fun v hv=>hp.e12 v (by rwa [aV (by decide)] at hv),fun v hv=>by rw[aV (by decide)] at hv ⊢;exact hp.e13 v hv⟩,?_⟩
 have e2:jO E (lg f 14 (.pointer (some ⟨g,0,none⟩))) q=jO E f q:=by unfold jO;rw[aV (by decide)]
 rw[e2,Df gW]
 have h3:Sat W w' (sep (ex fun g':Nat=>sep (fact (Value.pointer (some ⟨g,0,none⟩)=.pointer (some ⟨g',0,none⟩))) (blk g' (.cells #[.int .i64 0,.int .i64 0,.slice none 0 0,.slice none 0 0] t (0,0)))) (sep (kn q.J) (sep (jO E f q) Z))):=by
  rw[dA,Sat.ex]
  exact⟨g,by rw[aj];exact Sat.fact.2 ⟨rfl,h2⟩⟩
 exact (Sat.q2 h3)
theorem KN {W w':World} {E:Nat} {t:TypeId} {J0:Mem} {pa pb:List Fm} {Z:aG} {f:Nat→Option Value} {x:Nat} {a':Option Addr} {n' c':Nat} {us':List Value} (hx:x=6∨x=12) {q:wR} (hp:KL J0 pa pb f q) {v0:Value} (h0:f 0=some v0)
 (h6:x=6→f 12=none∧n'=pa.length∧(rF.rows 4).rel q.J us' pa) (h13:f 13=none) (h12:x=12→(f 6).isSome=true∧n'=pa.length+pb.length∧(rF.rows 4).rel q.J us' (pa++pb))
 (h:Sat W w' (sep (aK E 4 a' n' c' us') (sep (kn q.J) (sep (jr t f) Z)))):Sat W w' (pairT E t J0 pa pb Z (lg f x (.slice a' n' c'))):=by
 have x0:(0:Nat)≠x:=by rcases hx with rfl|rfl<;>decide
 have x5:(5:Nat)≠x:=by rcases hx with rfl|rfl<;>decide
 have x11:(11:Nat)≠x:=by rcases hx with rfl|rfl<;>decide
 have x14:(14:Nat)≠x:=by rcases hx with rfl|rfl<;>decide
 have x13:(13:Nat)≠x:=by rcases hx with rfl|rfl<;>decide
 refine dY.2 ⟨⟨q.J,us',a',n',c'⟩,⟨hp.le,fun v hv=>hp.r5 v (by rwa [aV x5] at hv),fun v hv=>hp.r11 v (by rwa [aV x11] at hv),fun v hv e6=>?_,fun v hv e12=>?_,fun v hv=>?_,fun v hv=>by rw[aV x13,h13] at hv;cases hv⟩,?_⟩
 ·rcases hx with rfl|rfl
  ·rw[gW] at e6;cases e6
  ·rw[aV (by decide)] at e6
   have:=(h12 rfl).1
   rw[e6] at this;cases this
 ·rcases hx with rfl|rfl
  ·rw[gW] at hv;cases hv
   exact⟨rfl,(h6 rfl).2.1,(h6 rfl).2.2⟩
  ·rw[gW] at e12;cases e12
 ·rcases hx with rfl|rfl
  ·rw[aV (by decide),(h6 rfl).1] at hv;cases hv
  ·rw[gW] at hv;cases hv
   exact⟨rfl,(h12 rfl).2.1,(h12 rfl).2.2⟩
 ·have e1:jr t (lg f x (.slice a' n' c'))=jr t f:=by unfold jr;rw[aV x14]
  have e2:jO E (lg f x (.slice a' n' c')) ⟨q.J,us',a',n',c'⟩=aK E 4 a' n' c' us':=nH (v:=v0) (by rw[aV x0];exact h0)
  rw[e1,e2]
  exact h.p1
theorem YC {W w:World} {E:Nat} {t:TypeId} {J0:Mem} {pa pb:List Fm} {Z:aG} {f:Nat→Option Value} {u:Value} (h12:f 12=some u) (h:Sat W w (pairT E t J0 pa pb Z f)):
 Sat W w (pairT E t J0 pa pb Z (lg f 13 (.agg #[.int .i64 4,.int .i64 0,.slice none 0 0,u]))):=by
 obtain⟨q,hp,h1⟩:=dY.1 h
 refine dY.2 ⟨q,⟨hp.le,fun v hv=>hp.r5 v (by rwa [aV (by decide)] at hv),fun v hv=>hp.r11 v (by rwa [aV (by decide)] at hv),fun v hv h6=>hp.e0 v (by rwa [aV (by decide)] at hv) (by rwa [aV (by decide)] at h6),fun v hv h12=>hp.e6 v (by rwa [aV (by decide)] at hv) (by rwa [aV (by decide)] at h12),fun v hv=>hp.e12 v (by rwa [aV (by decide)] at hv),fun v hv=>?_⟩,?_⟩
 ·rw[gW] at hv;cases hv
  exact⟨u,by rw[aV (by decide)];exact h12,rfl⟩
 ·have e1:jr t (lg f 13 (.agg #[.int .i64 4,.int .i64 0,.slice none 0 0,u]))=jr t f:=by unfold jr;rw[aV (by decide)]
  have e2:jO E (lg f 13 (.agg #[.int .i64 4,.int .i64 0,.slice none 0 0,u])) q=jO E f q:=by unfold jO;rw[aV (by decide)]
  rw[e1,e2]
  exact h1
theorem YD {W w:World} {A:aG} {g:Nat} {a b c d:Value} {t:TypeId} (h:Sat W w (sep (blk g (.cells #[a,b,c,d] t (0,0))) A)) (x y u v:Value):
 Sat W ((((w.setCell ⟨g,0,none⟩ x).setCell ⟨g,1,none⟩ y).setCell ⟨g,2,none⟩ u).setCell ⟨g,3,none⟩ v) (sep (blk g (.cells #[x,y,u,v] t (0,0))) A):=by
 have h1:=(((h.setCell 0 x).setCell 1 y).setCell 2 u).setCell 3 v
 simpa using h1
end PA

/- Part of a proof. -/
import Derived.Test.YtgicfogmdfdjmaaGreatDoorGTitleHolds0
import Derived.Lib.AppendStr
import Derived.BigQuiet
import Derived.Deep.QuietTactic
import Derived.LoopTactic
import Derived.OpenShut
import Derived.Laws.BytesString
import Derived.RangeFuncSeq
import Derived.RangeFuncRecord
import Derived.RangeFuncIn
import Derived.OwnWalkIn
import Derived.RangeFuncBound
import Derived.RangeFuncCalls
import Derived.RangeFuncLeaves
import Derived.TacticsInMore
import Derived.LoopNIn
import Derived.LoopIn
import Derived.Test.YtgicfogmdfdjmaaGreatDoorSort
import Derived.RangeFuncNested
import Derived.Shelf.Abstract
import Derived.Shelf.RegionOpen
import Derived.RangeFuncBox
import Derived.Maps.AppendAt
import Derived.Handy
import Derived.Lib.SliceRun
import Derived.Laws.IdiomStrings
namespace PA
open Go Go.RowKit
section
variable {P:Program} {ops:Array Oper} {Q:Exit→Act→World→Prop} {S:World→Prop} {W:World}
theorem iY {o:Oper} {a:Act} {Pre:aG} {Post:Value→aG} (hg:Region.wanted o (yielded ops a.tmps)=true) (f:FuncId) (args:Array Value) (hr:∀w,(execOp a.eval o).run P w=.ok (.enter f args) w)
 (hc:∀(w:World) (A:aG),Sat W w (sep Pre A)→Calls P f args w fun e w'=>∃v,e=.returned v∧Sat W w' (sep (Post v) A)):iq P ops W o a Pre Post:=
 ⟨hg,fun w A h=>.inr ⟨f,args,w,hr w,hc w A h⟩⟩
theorem kE {o:Oper} {a:Act} {ob:Obj} (hg:Region.wanted o (yielded ops a.tmps)=true) (hr:∀w,(execOp a.eval o).run P w=.ok (.value (.pointer (some ⟨w.heap.size,0,none⟩))) (w.alloc ob)):
 iq P ops W o a emp (fun v=>ex fun g:Nat=>sep (fact (v=.pointer (some ⟨g,0,none⟩))) (blk g ob)):=
 ⟨hg,fun w A h=>.inl ⟨_,_,hr w,by
  rw[bU] at h
  rw[dA,Sat.ex]
  exact⟨w.heap.size,by rw[aj];exact Sat.fact.2 ⟨rfl,h.alloc ob⟩⟩⟩⟩
def vV (Pre Mid Post:aG) (v1 v2:Value) (DT:List Value):List Value→aG
 | []=>Pre
 | [u]=>sep (fact (u=v1)) Mid
 | u::x::r=>sep (fact (u=v1∧x=v2∧r=DT.take r.length)) Post
theorem sU {Pre Mid Post:aG} {v1 v2:Value} {DT:List Value} {a0:Act} {i j:Nat} {js:List Nat} {oi oj:Oper} {di:Option Tmp} (hdi:aZ ops i=di) (hoi:ops[i]?=some oi) (hsi:∀cs b,oi.op≠.select cs b) (hoj:ops[j]?=some oj) (hsj:∀cs b,oj.op≠.select cs b)
 (hb:((Region.before ops).getD j 0).testBit i=true) (h1:iq P ops W oi a0 Pre (fun v=>sep (fact (v=v1)) Mid)) (h2:iq P ops W oj (a0.put di v1) Mid (fun v=>sep (fact (v=v2)) Post))
 (hw2:∀v,Region.wanted oj (yielded ops (a0.put di v).tmps)=true) (hpl:js.all (mO ops)=true) (hF:vW P ops ((a0.put di v1).put (aZ ops j) v2) js DT):
 uj P ops W a0 (vV Pre Mid Post v1 v2 DT) [] [(i,[]),(j,js)]:=by
 subst hdi
 refine⟨⟨oi,hoi,hsi,h1⟩,fun y hy=>?_,fun j hj=>(by cases hj),fun v w B h=>⟨[],trivial,h⟩,fun v us hus=>?_⟩
 ·rw[List.mem_singleton.1 hy];exact hb
 ·have aez:us=[]:=List.eq_nil_of_length_eq_zero hus
  subst aez
  refine⟨⟨oj,hoj,hsj,hw2 v,fun w A hS=>?_⟩,fun y hy=>(by cases hy),fun k hk=>List.all_eq_true.1 hpl k hk,fun v' w B h=>?_,fun _ _ _=>trivial⟩
  ·have hS':Sat W w (sep (sep (fact (v=v1)) Mid) A):=hS
   rw[aj] at hS'
   obtain⟨rfl,hS2⟩:=Sat.fact.1 hS'
   have conv:∀(v':Value) (w':World),Sat W w' (sep (sep (fact (v'=v2)) Post) A)→Sat W w' (sep (vV Pre Mid Post v v2 DT ([v]++[v'])) A):=fun v' w' h=>by
    show Sat W w' (sep (sep (fact (v=v∧v'=v2∧[]=DT.take ([]:List Value).length)) Post) A)
    rw[aj] at h ⊢
    obtain⟨h1,h2⟩:=Sat.fact.1 h
    exact Sat.fact.2 ⟨⟨rfl,h1,by simp⟩,h2⟩
   rcases h2.2 w A hS2 with ⟨v',w',h3,h4⟩|⟨f,args,w1,h3,h4⟩
   ·exact .inl ⟨v',w',h3,conv v' w' h4⟩
   ·refine .inr ⟨f,args,w1,h3,h4.mono ?_⟩
    rintro e w' ⟨v',rfl,h5⟩
    exact⟨v',rfl,conv v' w' h5⟩
  ·have h':Sat W w (sep (sep (fact (v=v1∧v'=v2∧[]=DT.take ([]:List Value).length)) Post) B):=h
   rw[aj] at h'
   obtain⟨⟨rfl,rfl,-⟩,h3⟩:=Sat.fact.1 h'
   refine⟨DT,hF,?_⟩
   show Sat W w (sep (sep (fact (v=v∧v'=v'∧DT=DT.take DT.length)) Post) B)
   rw[aj]
   exact Sat.fact.2 ⟨⟨rfl,rfl,by rw[List.take_length]⟩,h3⟩
theorem sS {Pre Mid Post:aG} {v1 v2:Value} {DT:List Value} {A:aG} {w:World} {i j:Nat} {js:List Nat} {dn:List (Nat×Value)} (hdn:dn.map (·.1)=i::j::js) (hl:DT.length=js.length)
 (h:Sat W w (sep (vV Pre Mid Post v1 v2 DT (dn.map (·.2))) A)):dn=(i,v1)::(j,v2)::js.zip DT∧Sat W w (sep Post A):=by
 match dn,hdn with
 | (i',u)::(j',x)::dn,hdn=>
  simp only[List.map_cons,List.cons.injEq] at hdn
  obtain⟨rfl,rfl,hj⟩:=hdn
  have h':Sat W w (sep (sep (fact (u=v1∧x=v2∧dn.map (·.2)=DT.take (dn.map (·.2)).length)) Post) A):=h
  rw[aj] at h'
  obtain⟨⟨rfl,rfl,h2⟩,h3⟩:=Sat.fact.1 h'
  refine⟨?_,h3⟩
  have hlen:(dn.map (·.2)).length=DT.length:=by rw[hl,←hj];simp
  rw[hlen,List.take_length] at h2
  rw[←h2,←hj]
  congr 1
  congr 1
  clear h2 hlen h h' h3 hj hl
  induction dn with
  | nil=>rfl
  | cons z dn ih=>simp[←ih]
end
end PA
namespace PA
section
variable {α:Type}
def tY (f:Nat→α) (i j:Nat):Nat→α:=fun k=>if k=i then f j else if k=j then f i else f k
theorem Jk (f:Nat→α) (i j:Nat):tY f i j=tY f j i:=by
 funext k
 unfold tY
 by_cases h1:k=i
 ·by_cases h2:k=j
  ·rw[if_pos h1,if_pos h2,←h1,←h2]
  ·rw[if_pos h1,if_neg h2,if_pos h1]
 ·rw[if_neg h1]
  by_cases h2:k=j
  ·rw[if_pos h2,if_pos h2]
  ·rw[if_neg h2,if_neg h2,if_neg h1]
inductive Sw (a b:Nat) (f:Nat→α):(Nat→α)→Prop where
 | refl:Sw a b f f
 | step (g:Nat→α) (i j:Nat):Sw a b f g→a≤i→i<b→a≤j→j<b→Sw a b f (tY g i j)
theorem Sw.trans {a b:Nat} {f g h:Nat→α} (h1:Sw a b f g) (h2:Sw a b g h):Sw a b f h:=by
 induction h2 with
 | refl=>exact h1
 | step g' i j _ p1 p2 p3 p4 ih=>exact .step g' i j ih p1 p2 p3 p4
theorem Sw.mono {a b a' b':Nat} {f g:Nat→α} (h1:a'≤a) (h2:b≤b') (h:Sw a b f g):Sw a' b' f g:=by
 induction h with
 | refl=>exact .refl
 | step g' i j _ p1 p2 p3 p4 ih=>exact .step g' i j ih (by omega) (by omega) (by omega) (by omega)
theorem Sw.out {a b:Nat} {f g:Nat→α} (h:Sw a b f g) {k:Nat} (hk:k<a∨b≤k):g k=f k:=by
 induction h with
 | refl=>rfl
 | step g' i j _ p1 p2 p3 p4 ih=>
  unfold tY
  rw[if_neg (by omega),if_neg (by omega)]
  exact ih
theorem Sw.at {a b:Nat} {f g:Nat→α} (h:Sw a b f g):∀k,a≤k→k<b→∃j,a≤j∧j<b∧g k=f j:=by
 induction h with
 | refl=>exact fun k h1 h2=>⟨k,h1,h2,rfl⟩
 | step g' i j _ p1 p2 p3 p4 ih=>
  intro k h1 h2
  unfold tY
  split
  ·exact ih j p3 p4
  ·split
   ·exact ih i p1 p2
   ·exact ih k h1 h2
theorem Ul (n:Nat) (f:Nat→α) (i j:Nat) (hi:i<n) (hj:j<n):((List.range n).map (tY f i j)).Perm ((List.range n).map f):=by
 have e:(List.range n).map (tY f i j)=(((List.range n).map f).set i (((List.range n).map f)[j]'(by simpa using hj))).set j (((List.range n).map f)[i]'(by simpa using hi)):=by
  apply List.ext_getElem
  ·simp
  ·intro k h1 h2
   simp only[List.getElem_map,List.getElem_range,List.getElem_set,tY]
   by_cases e1:k=j
   ·subst e1
    by_cases e2:k=i
    ·subst e2;simp
    ·simp[e2]
   ·by_cases e2:k=i
    ·subst e2;simp[Ne.symm e1]
    ·simp[e1,e2,Ne.symm e1,Ne.symm e2]
 rw[e]
 exact List.set_set_perm _ _
theorem Sw.perm {n:Nat} {f g:Nat→α} (h:Sw 0 n f g):((List.range n).map g).Perm ((List.range n).map f):=by
 induction h with
 | refl=>exact .refl _
 | step g' i j _ p1 p2 p3 p4 ih=>exact (Ul n g' i j p2 p4).trans ih
def MO (f:Nat→α) (a b:Nat):Nat→Nat→α
 | 0=>f
 | n+1=>tY (MO f a b n) (a+n) (b+n)
theorem wC (f:Nat→α) (a b:Nat):∀n,a+n≤b→∀k,MO f a b n k=if a≤k∧k<a+n then f (b+(k-a)) else if b≤k∧k<b+n then f (a+(k-b)) else f k
 | 0,h,k=>by rw[MO,if_neg (by omega),if_neg (by omega)]
 | n+1,h,k=>by
  have ih:=wC f a b n (by omega)
  have e0:MO f a b (n+1) k=if k=a+n then MO f a b n (b+n) else if k=b+n then MO f a b n (a+n) else MO f a b n k:=rfl
  rw[e0,ih k,ih (a+n),ih (b+n)]
  (repeat' split)<;>first|rfl|(exfalso;omega)|(congr 1;omega)
theorem GH (f:Nat→α) (a b lo hi:Nat) (h1:lo≤a) (h2:lo≤b):∀n,a+n≤hi→b+n≤hi→Sw lo hi f (MO f a b n)
 | 0,_,_=>.refl
 | n+1,h3,h4=>.step _ _ _ (GH f a b lo hi h1 h2 n (by omega) (by omega)) (by omega) (by omega) (by omega) (by omega)
def zV (f:Nat→α) (a m b:Nat) (g:Nat→α):Prop:=(∀t,t<b-m→g (a+t)=f (m+t))∧(∀t,t<m-a→g (a+(b-m)+t)=f (a+t))∧∀k,k<a∨b≤k→g k=f k
structure AU (f:Nat→α) (a m b i j:Nat) (g:Nat→α):Prop where
 hi:i≤m-a
 hj:j≤b-m
 ok:∀T:Nat→α,zV f a m b T→(∀k,k<m-i∨m+j≤k→g k=T k)∧(∀t,t<j→T (m-i+t)=g (m+t))∧(∀t,t<i→T (m-i+j+t)=g (m-i+t))
 sw:Sw a b f g
theorem AU.start (f:Nat→α) (a m b:Nat) (h1:a≤m) (h2:m≤b):AU f a m b (m-a) (b-m) f:=by
 refine⟨Nat.le_refl _,Nat.le_refl _,fun T hT=>⟨fun k hk=>(hT.2.2 k (by omega)).symm,fun t ht=>?_,fun t ht=>?_⟩,.refl⟩
 ·rw[←hT.1 t ht];congr 1;omega
 ·rw[show m-(m-a)+(b-m)+t=a+(b-m)+t by omega,hT.2.1 t ht];congr 1;omega
theorem AU.big {f g:Nat→α} {a m b i j:Nat} (h:AU f a m b i j g) (h1:a≤m) (h2:m≤b) (hij:j<i):AU f a m b (i-j) j (MO g (m-i) m j):=by
 have hi:=h.hi
 have hj:=h.hj
 have hs:=wC g (m-i) m j (by omega)
 refine⟨by omega,hj,fun T hT=>?_,h.sw.trans (GH g (m-i) m a b (by omega) (by omega) j (by omega) (by omega))⟩
 obtain⟨o1,o2,o3⟩:=h.ok T hT
 refine⟨fun k hk=>?_,fun t ht=>?_,fun t ht=>?_⟩
 ·rw[hs k]
  by_cases e1:m-i≤k∧k<m-i+j
  ·rw[if_pos e1,←o2 (k-(m-i)) (by omega)];congr 1;omega
  ·rw[if_neg e1,if_neg (by omega)];exact o1 k (by omega)
 ·rw[hs (m+t),if_neg (by omega),if_pos (by omega)]
  have:=o3 t (by omega)
  rw[show m-(i-j)+t=m-i+j+t by omega,this];congr 1;omega
 ·rw[hs,if_neg (by omega),if_neg (by omega)]
  have:=o3 (j+t) (by omega)
  rw[show m-(i-j)+j+t=m-i+j+(j+t) by omega,this];congr 1;omega
theorem AU.small {f g:Nat→α} {a m b i j:Nat} (h:AU f a m b i j g) (h1:a≤m) (h2:m≤b) (hij:i<j):AU f a m b i (j-i) (MO g (m-i) (m+j-i) i):=by
 have hi:=h.hi
 have hj:=h.hj
 have hs:=wC g (m-i) (m+j-i) i (by omega)
 refine⟨hi,by omega,fun T hT=>?_,h.sw.trans (GH g (m-i) (m+j-i) a b (by omega) (by omega) i (by omega) (by omega))⟩
 obtain⟨o1,o2,o3⟩:=h.ok T hT
 refine⟨fun k hk=>?_,fun t ht=>?_,fun t ht=>?_⟩
 ·rw[hs k]
  by_cases e1:m+j-i≤k∧k<m+j-i+i
  ·rw[if_neg (by omega),if_pos e1,←o3 (k-(m+j-i)) (by omega)];congr 1;omega
  ·rw[if_neg (by omega),if_neg e1];exact o1 k (by omega)
 ·rw[hs (m+t),if_neg (by omega),if_neg (by omega)]
  exact o2 t (by omega)
 ·rw[hs,if_pos (by omega)]
  have:=o2 (j-i+t) (by omega)
  rw[show m-i+(j-i)+t=m-i+(j-i+t) by omega,this];congr 1;omega
theorem AU.done {f g:Nat→α} {a m b i:Nat} (h:AU f a m b i i g) (h1:a≤m) (h2:m≤b):zV f a m b (MO g (m-i) m i)∧Sw a b f (MO g (m-i) m i):=by
 have hi:=h.hi
 have hj:=h.hj
 have hs:=wC g (m-i) m i (by omega)
 refine⟨?_,h.sw.trans (GH g (m-i) m a b (by omega) (by omega) i (by omega) (by omega))⟩
 have hex:∃T,zV f a m b T:=⟨fun k=>if k<a∨b≤k then f k else if k<a+(b-m) then f (m+(k-a)) else f (a+(k-(a+(b-m)))),fun t ht=>by
  simp only[];rw[if_neg (by omega),if_pos (by omega)];congr 1;omega,fun t ht=>by
  simp only[];rw[if_neg (by omega),if_neg (by omega)];congr 1;omega,fun k hk=>by simp only[];rw[if_pos hk]⟩
 obtain⟨T,hT⟩:=hex
 obtain⟨o1,o2,o3⟩:=h.ok T hT
 have e:MO g (m-i) m i=T:=by
  funext k
  rw[hs k]
  by_cases e1:m-i≤k∧k<m-i+i
  ·rw[if_pos e1,←o2 (k-(m-i)) (by omega)];congr 1;omega
  ·rw[if_neg e1]
   by_cases e2:m≤k∧k<m+i
   ·rw[if_pos e2]
    have:=o3 (k-m) (by omega)
    rw[←this];congr 1;omega
   ·rw[if_neg e2];exact o1 k (by omega)
 rw[e];exact hT
variable (c:α→α→Int)
def dU (a b:Nat) (f:Nat→α):Prop:=∀i j,a≤i→i<j→j<b→c (f i) (f j)≤0
structure Total (c:α→α→Int):Prop where
 trans:∀x y z,c x y≤0→c y z≤0→c x z≤0
 flip:∀x y,c y x=-c x y
variable {c}
theorem dU.sub {a b a' b':Nat} {f:Nat→α} (h:dU c a b f) (h1:a≤a') (h2:b'≤b):dU c a' b' f:=fun i j p1 p2 p3=>h i j (by omega) p2 (by omega)
theorem dU.congr {a b:Nat} {f g:Nat→α} (h:dU c a b f) (e:∀k,a≤k→k<b→g k=f k):dU c a b g:=fun i j p1 p2 p3=>by rw[e i p1 (by omega),e j (by omega) p3];exact h i j p1 p2 p3
theorem dU.list {n:Nat} {f:Nat→α} (h:dU c 0 n f):((List.range n).map f).Pairwise fun x y=>c x y≤0:=by
 rw[List.pairwise_map]
 refine List.Pairwise.imp_of_mem (R:=fun i j=>i<j) ?_ List.pairwise_lt_range
 intro i j _ hj hij
 exact h i j (by omega) hij (by simpa using hj)
theorem Um {a j b:Nat} {f:Nat→α} (hT:Total c) (h1:dU c a j f) (h2:dU c j b f) (h3:∀p q,a≤p→p<j→j<q→q<b→c (f p) (f q)≤0) (hj:j=a∨0≤c (f j) (f (j-1))) (hab:a≤j) (hjb:j<b):dU c a b f:=by
 intro p q hp hpq hq
 rcases Nat.lt_or_ge q j with e|e
 ·exact h1 p q hp hpq e
 ·rcases Nat.lt_or_ge p j with e2|e2
  ·rcases Nat.lt_or_ge j q with e3|e3
   ·exact h3 p q hp e2 e3 hq
   ·obtain rfl:q=j:=by omega
    rcases hj with e4|e4
    ·omega
    ·have hlast:c (f (q-1)) (f q)≤0:=by have:=hT.flip (f (q-1)) (f q);omega
     rcases Nat.lt_or_ge p (q-1) with e5|e5
     ·exact hT.trans _ _ _ (h1 p (q-1) hp e5 (by omega)) hlast
     ·obtain rfl:p=q-1:=by omega
      exact hlast
  ·exact h2 p q e2 hpq hq
theorem Uo {a m b:Nat} {f:Nat→α} (h1:dU c a m f) (h2:dU c m b f) (h3:∀p q,a≤p→p<m→m≤q→q<b→c (f p) (f q)≤0):dU c a b f:=by
 intro p q hp hpq hq
 rcases Nat.lt_or_ge q m with e|e
 ·exact h1 p q hp hpq e
 ·rcases Nat.lt_or_ge p m with e2|e2
  ·exact h3 p q hp e2 e hq
  ·exact h2 p q e2 hpq hq
theorem MR {a mid b:Nat} {g g1 g2:Nat→α} (hx:∀p q,a≤p→p<mid→mid≤q→q<b→c (g p) (g q)≤0)
 (s1:Sw a mid g g1) (k1:dU c a mid g1) (s2:Sw mid b g1 g2) (k2:dU c mid b g2):dU c a b g2:=by
 refine Uo (m:=mid) (k1.congr fun k p1 p2=>s2.out (.inl p2)) k2 fun p q p1 p2 p3 p4=>?_
 obtain⟨i,i1,i2,e1⟩:=s1.at p p1 p2
 obtain⟨j,j1,j2,e2⟩:=s2.at q p3 p4
 rw[s2.out (.inl p2),e1,e2,s1.out (.inr j1)]
 exact hx i j i1 i2 j1 j2
theorem Qd {a m b mid start en:Nat} {f g:Nat→α} (hT:Total c) (h1:dU c a m f) (h2:dU c m b f) (ha:a≤start) (hs:start≤m) (he:m≤en) (hb:en≤b) (hsm:start≤mid) (hm:en+start=mid+m)
 (hlo:start=a∨en=b∨c (f (start-1)) (f en)≤0) (hup:start=m∨en=m∨c (f (en-1)) (f start)≤0) (hg:zV f start m en g):
 dU c a start g∧dU c start mid g∧dU c mid en g∧dU c en b g∧∀p q,a≤p→p<mid→mid≤q→q<b→c (g p) (g q)≤0:=by
 obtain⟨g1,g2,g3⟩:=hg
 have e1:∀k,k<start→g k=f k:=fun k hk=>g3 k (.inl hk)
 have e2:∀k,start≤k→k<mid→g k=f (m+(k-start)):=fun k p1 p2=>by rw[←g1 (k-start) (by omega)];congr 1;omega
 have e3:∀k,mid≤k→k<en→g k=f (start+(k-mid)):=fun k p1 p2=>by rw[←g2 (k-mid) (by omega)];congr 1;omega
 have e4:∀k,en≤k→g k=f k:=fun k hk=>g3 k (.inr hk)
 have le:∀{x y:α},x=y→c x y≤0:=fun {x y} e=>by subst e;have:=hT.flip x x;omega
 refine⟨fun p q p1 p2 p3=>?_,fun p q p1 p2 p3=>?_,fun p q p1 p2 p3=>?_,fun p q p1 p2 p3=>?_,fun p q p1 p2 p3 p4=>?_⟩
 ·rw[e1 p (by omega),e1 q p3];exact h1 p q p1 p2 (by omega)
 ·rw[e2 p p1 (by omega),e2 q (by omega) p3];exact h2 _ _ (by omega) (by omega) (by omega)
 ·rw[e3 p p1 (by omega),e3 q (by omega) p3];exact h1 _ _ (by omega) (by omega) (by omega)
 ·rw[e4 p p1,e4 q (by omega)];exact h2 _ _ (by omega) p2 p3
 ·have Ur:∀i j,a≤i→i≤j→j<m→c (f i) (f j)≤0:=fun i j q1 q2 q3=>by
   rcases Nat.lt_or_ge i j with e|e
   ·exact h1 i j q1 e q3
   ·exact le (by congr 1;omega)
  have Us:∀i j,m≤i→i≤j→j<b→c (f i) (f j)≤0:=fun i j q1 q2 q3=>by
   rcases Nat.lt_or_ge i j with e|e
   ·exact h2 i j q1 e q3
   ·exact le (by congr 1;omega)
  rcases Nat.lt_or_ge p start with x|x
  ·rw[e1 p x]
   rcases Nat.lt_or_ge q en with y|y
   ·rw[e3 q p3 y];exact Ur _ _ p1 (by omega) (by omega)
   ·rw[e4 q y]
    rcases hlo with z|z|z
    ·omega
    ·omega
    ·exact hT.trans _ _ _ (Ur p (start-1) p1 (by omega) (by omega)) (hT.trans _ _ _ z (Us en q (by omega) y p4))
  ·rw[e2 p x p2]
   rcases Nat.lt_or_ge q en with y|y
   ·rw[e3 q p3 y]
    rcases hup with z|z|z
    ·omega
    ·omega
    ·exact hT.trans _ _ _ (Us _ (en-1) (by omega) (by omega) (by omega)) (hT.trans _ _ _ z (Ur start _ ha (by omega) (by omega)))
   ·rw[e4 q y];exact Us _ _ (by omega) (by omega) p4
theorem TG {a b i:Nat} {f g:Nat→α} (hT:Total c) (h2:dU c (a+1) b f) (ha:a+1≤i) (hi:i≤b) (hlo:∀k,a+1≤k→k<i→c (f k) (f a)≤0) (hup:∀k,i≤k→k<b→0≤c (f k) (f a)) (hg:zV f a (a+1) i g):dU c a b g:=by
 obtain⟨g1,g2,g3⟩:=hg
 have e1:∀k,a≤k→k<i-1→g k=f (k+1):=fun k p1 p2=>by have:=g1 (k-a) (by omega);rw[show a+(k-a)=k by omega] at this;rw[this];congr 1;omega
 have e2:g (i-1)=f a:=by have:=g2 0 (by omega);rw[show a+(i-(a+1))+0=i-1 by omega] at this;rw[this];rfl
 have e3:∀k,i≤k→g k=f k:=fun k hk=>g3 k (.inr hk)
 intro p q p1 p2 p3
 rcases Nat.lt_or_ge q (i-1) with x|x
 ·rw[e1 p p1 (by omega),e1 q (by omega) x];exact h2 _ _ (by omega) (by omega) (by omega)
 ·rcases Nat.lt_or_ge q i with y|y
  ·obtain rfl:q=i-1:=by omega
   rw[e2,e1 p p1 p2];exact hlo _ (by omega) (by omega)
  ·rw[e3 q y]
   rcases Nat.lt_or_ge p (i-1) with z|z
   ·rw[e1 p p1 z];exact h2 _ _ (by omega) (by omega) p3
   ·rcases Nat.lt_or_ge p i with v|v
    ·obtain rfl:p=i-1:=by omega
     rw[e2];have:=hup q y p3;have:=hT.flip (f q) (f a);omega
    ·rw[e3 p v];exact h2 _ _ (by omega) p2 p3
theorem MP {a m i:Nat} {f g:Nat→α} (hT:Total c) (h1:dU c a m f) (ha:a≤i) (hi:i≤m) (hlo:∀k,a≤k→k<i→0≤c (f m) (f k)) (hup:∀k,i≤k→k<m→c (f m) (f k)≤0) (hg:zV f i m (m+1) g):dU c a (m+1) g:=by
 obtain⟨g1,g2,g3⟩:=hg
 have e1:∀k,k<i→g k=f k:=fun k hk=>g3 k (.inl hk)
 have e2:g i=f m:=g1 0 (by omega)
 have e3:∀k,i<k→k<m+1→g k=f (k-1):=fun k p1 p2=>by have:=g2 (k-(i+1)) (by omega);rw[show i+(m+1-m)+(k-(i+1))=k by omega] at this;rw[this];congr 1;omega
 intro p q p1 p2 p3
 rcases Nat.lt_trichotomy q i with x|x|x
 ·rw[e1 p (by omega),e1 q x];exact h1 _ _ p1 p2 (by omega)
 ·subst x;rw[e2,e1 p p2];have:=hlo p p1 p2;have:=hT.flip (f m) (f p);omega
 ·rw[e3 q x p3]
  rcases Nat.lt_trichotomy p i with y|y|y
  ·rw[e1 p y];exact h1 _ _ p1 (by omega) (by omega)
  ·subst y;rw[e2];exact hup _ (by omega) (by omega)
  ·rw[e3 p y (by omega)];exact h1 _ _ (by omega) (by omega) (by omega)
structure Ji (c:α→α→Int) (a i j:Nat) (f:Nat→α):Prop where
 lo:dU c a j f
 hi:dU c j (i+1) f
 ac:∀p q,a≤p→p<j→j<q→q<i+1→c (f p) (f q)≤0
theorem Ji.start {a i:Nat} {f:Nat→α} (h:dU c a i f):Ji c a i i f:=⟨h,fun p q p1 p2 p3=>by omega,fun p q p1 p2 p3 p4=>by omega⟩
theorem Ji.step {a i j:Nat} {f:Nat→α} (h:Ji c a i j f) (h1:a<j) (h2:j≤i) (hlt:c (f j) (f (j-1))<0):Ji c a i (j-1) (tY f j (j-1)):=by
 have e1:∀k,k<j-1→tY f j (j-1) k=f k:=fun k hk=>by unfold tY;rw[if_neg (by omega),if_neg (by omega)]
 have e2:tY f j (j-1) (j-1)=f j:=by unfold tY;rw[if_neg (by omega),if_pos rfl]
 have e3:tY f j (j-1) j=f (j-1):=by unfold tY;rw[if_pos rfl]
 have e4:∀k,j<k→tY f j (j-1) k=f k:=fun k hk=>by unfold tY;rw[if_neg (by omega),if_neg (by omega)]
 refine⟨fun p q p1 p2 p3=>?_,fun p q p1 p2 p3=>?_,fun p q p1 p2 p3 p4=>?_⟩
 ·rw[e1 p (by omega),e1 q (by omega)];exact h.lo p q p1 p2 (by omega)
 ·rcases Nat.lt_trichotomy p j with x|x|x
  ·obtain rfl:p=j-1:=by omega
   rw[e2]
   rcases Nat.lt_trichotomy q j with y|y|y
   ·omega
   ·subst y;rw[e3];omega
   ·rw[e4 q y];exact h.hi j q (Nat.le_refl _) y p3
  ·subst x
   rw[e3,e4 q p2];exact h.ac (p-1) q (by omega) (by omega) p2 p3
  ·rw[e4 p x,e4 q (by omega)];exact h.hi p q (by omega) p2 p3
 ·rw[e1 p (by omega)]
  rcases Nat.lt_trichotomy q j with y|y|y
  ·omega
  ·subst y;rw[e3];exact h.lo p (q-1) p1 (by omega) (by omega)
  ·rw[e4 q y];exact h.ac p q p1 (by omega) y p4
theorem Ji.stop {a i j:Nat} {f:Nat→α} (hT:Total c) (h:Ji c a i j f) (h1:a≤j) (h2:j≤i) (hj:j=a∨0≤c (f j) (f (j-1))):dU c a (i+1) f:=Um hT h.lo h.hi h.ac hj h1 (by omega)
def DF (D:α→α→Prop) (n:Nat) (f:Nat→α):Prop:=∀i j,i<n→j<n→i≠j→D (f i) (f j)
theorem DF.sw1 {D:α→α→Prop} {n:Nat} {f:Nat→α} (h:DF D n f) {i j:Nat} (hi:i<n) (hj:j<n):DF D n (tY f i j):=by
 intro p q hp hq hne
 unfold tY
 (repeat' split)<;>first|(exfalso;omega)|(apply h<;>omega)|skip
 all_goals (subst_vars;first|(exfalso;omega)|(apply h<;>omega))
theorem DF.sw {D:α→α→Prop} {n a b:Nat} {f g:Nat→α} (h:DF D n f) (hs:Sw a b f g) (hb:b≤n):DF D n g:=by
 induction hs with
 | refl=>exact h
 | step g' i j _ p1 p2 p3 p4 ih=>exact ih.sw1 (by omega) (by omega)
theorem DF.W9 {D:α→α→Prop} [Inhabited α] (hD:∀x y,D x y→D y x) {l:List α} (h:l.Pairwise D):DF D l.length fun i=>l.getD i default:=by
 intro i j hi hj hne
 have hp:=List.pairwise_iff_getElem.1 h
 simp only[List.getD_eq_getElem?_getD,List.getElem?_eq_getElem hi,List.getElem?_eq_getElem hj,Option.getD_some]
 rcases Nat.lt_or_ge i j with e|e
 ·exact hp i j hi hj e
 ·exact hD _ _ (hp j i hj hi (by omega))
theorem Ak [Inhabited α] (l:List α):(List.range l.length).map (fun i=>l.getD i default)=l:=by
 apply List.ext_getElem
 ·simp
 ·intro i h1 h2
  simp[List.getElem?_eq_getElem h2]
end
end PA
namespace PA
section
variable {α:Type} {c:α→α→Int}
theorem zV.up0 (f:Nat→α) (a:Nat):zV f a (a+1) (a+1) f:=⟨fun t ht=>by omega,fun t ht=>by congr 1;omega,fun k _=>rfl⟩
theorem zV.up {f g:Nat→α} {a k:Nat} (h:zV f a (a+1) (k+1) g) (hk:a≤k):zV f a (a+1) (k+2) (tY g k (k+1)):=by
 obtain⟨g1,g2,g3⟩:=h
 have e2:g k=f a:=by have:=g2 0 (by omega);rw[show a+(k+1-(a+1))+0=k by omega] at this;exact this
 refine⟨fun t ht=>?_,fun t ht=>?_,fun x hx=>?_⟩
 ·unfold tY
  by_cases e:a+t=k
  ·rw[if_pos e,g3 (k+1) (.inr (Nat.le_refl _))];congr 1;omega
  ·rw[if_neg e,if_neg (by omega)];exact g1 t (by omega)
 ·unfold tY
  rw[if_neg (by omega),if_pos (by omega),e2];congr 1;omega
 ·unfold tY
  rw[if_neg (by omega),if_neg (by omega)];exact g3 x (by omega)
theorem zV.down0 (f:Nat→α) (m:Nat):zV f m m (m+1) f:=⟨fun t ht=>rfl,fun t ht=>by omega,fun k _=>rfl⟩
theorem zV.down {f g:Nat→α} {m k:Nat} (h:zV f k m (m+1) g) (h0:0<k) (hk:k≤m):zV f (k-1) m (m+1) (tY g k (k-1)):=by
 obtain⟨g1,g2,g3⟩:=h
 have e2:g k=f m:=g1 0 (by omega)
 refine⟨fun t ht=>?_,fun t ht=>?_,fun x hx=>?_⟩
 ·unfold tY
  rw[if_neg (by omega),if_pos (by omega),e2];congr 1;omega
 ·unfold tY
  by_cases e:k-1+(m+1-m)+t=k
  ·rw[if_pos e,g3 (k-1) (.inl (by omega))];congr 1;omega
  ·rw[if_neg e,if_neg (by omega)]
   have:=g2 (t-1) (by omega)
   rw[show k+(m+1-m)+(t-1)=k-1+(m+1-m)+t by omega] at this
   rw[this];congr 1;omega
 ·unfold tY
  rw[if_neg (by omega),if_neg (by omega)];exact g3 x (by omega)
theorem zV.none1 (f:Nat→α) (m b:Nat):zV f m m b f:=⟨fun t _=>rfl,fun t ht=>by omega,fun k _=>rfl⟩
theorem zV.none2 (f:Nat→α) (a m:Nat):zV f a m m f:=⟨fun t ht=>by omega,fun t _=>by congr 1;omega,fun k _=>rfl⟩
structure Bs (c:α→α→Int) (lo hi i j:Nat) (f:Nat→α) (x:α):Prop where
 h1:lo≤i
 h2:i≤j
 h3:j≤hi
 lo:∀k,lo≤k→k<i→c (f k) x≤0
 up:∀k,j≤k→k<hi→0≤c (f k) x
theorem Bs.start {lo hi:Nat} (h:lo≤hi) (f:Nat→α) (x:α):Bs c lo hi lo hi f x:=⟨Nat.le_refl _,h,Nat.le_refl _,fun k p1 p2=>by omega,fun k p1 p2=>by omega⟩
theorem Bs.right {lo hi i j:Nat} {f:Nat→α} {x:α} (hT:Total c) (hs:dU c lo hi f) (h:Bs c lo hi i j f x) {m:Nat} (h1:i≤m) (h2:m<j) (hm:c (f m) x≤0):Bs c lo hi (m+1) j f x:=by
 refine⟨by have:=h.h1;omega,by omega,h.h3,fun k p1 p2=>?_,h.up⟩
 rcases Nat.lt_or_ge k m with e|e
 ·exact hT.trans _ _ _ (hs k m p1 e (by have:=h.h3;omega)) hm
 ·obtain rfl:k=m:=by omega
  exact hm
theorem Bs.left {lo hi i j:Nat} {f:Nat→α} {x:α} (hT:Total c) (hs:dU c lo hi f) (h:Bs c lo hi i j f x) {m:Nat} (h1:i≤m) (h2:m<j) (hm:0≤c (f m) x):Bs c lo hi i m f x:=by
 refine⟨h.h1,h1,by have:=h.h3;omega,h.lo,fun k p1 p2=>?_⟩
 rcases Nat.lt_or_ge m k with e|e
 ·have h3:=hs m k (by have:=h.h1;omega) e p2
  have h4:=hT.flip (f m) x
  have h5:=hT.trans _ _ _ (show c x (f m)≤0 by omega) h3
  have h6:=hT.flip (f k) x
  omega
 ·obtain rfl:k=m:=by omega
  exact hm
end
end PA
namespace PA
open Go Go.RowKit
section
variable {P:Program} {W w:World} {A:aG}
end
end PA
namespace PA
open Go Go.RowKit
section
variable {W w:World} {A:aG}
end
end PA
namespace Go.Proofs.YtgicfogmdfdjmaaGreatDoor
open Go.RowKit PA
theorem xC {a:Int} (h:(Lit.int .i64 a).wf=true):-9223372036854775808≤a∧a≤9223372036854775807:=bounds_i64 h
def iF (n m:Int):Int:=(if n<0 then -(n+1) else n) % m
theorem iW (n m:Int) (h:0<m):0≤iF n m∧iF n m<m:=by
 unfold iF;exact⟨Int.emod_nonneg _ (by omega),Int.emod_lt_of_pos _ h⟩
theorem OI {a b:Int} (h:a=b):Ending.returned (.int .i64 a)=.returned (.int .i64 b):=by rw[h]
theorem UG {a b:Bool} (h:a=b):Ending.returned (.bool a)=.returned (.bool b):=by rw[h]
set_option maxHeartbeats 400000 in
theorem kZ (n m:Int) (w:World) (hn:-9223372036854775808≤n) (hn2:n≤9223372036854775807) (hm:1≤m) (hm2:m≤9223372036854775807):
 Calls Tryz.prog 6 #[.int .i64 n,.int .i64 m] w fun e w'=>e=.returned (.int .i64 (iF n m))∧w=w':=by
 by_cases h:n<0
 ·go_enter Tryz.func6,Tryz.ntmps6
  go_wp2
  go_ret
  exact⟨OI (by unfold iF;rw[if_pos h,←Int.neg_tmod,Int.tmod_eq_emod_of_nonneg (by omega)]),rfl⟩
 ·go_enter Tryz.func6,Tryz.ntmps6
  go_wp2
  go_ret
  exact⟨OI (by unfold iF;rw[if_neg (by omega)]),rfl⟩
end Go.Proofs.YtgicfogmdfdjmaaGreatDoor
namespace PA
open Go Go.RowKit
theorem Sat.putObj {W w:World} {A:aG} {l:Nat} {o:Obj} (h:Sat W w (sep (blk l o) A)) (o':Obj):Sat W (w.putObj l o') (sep (blk l o') A):=
 h.change rfl rfl rfl (World.putObj_heap_same h.lt) fun _ hk _=>World.putObj_heap_other hk
section
variable {α:Type} {F:Fence} {P:Program}
def Takes (F:Fence) (n:Nat) (P:Program) (W:World) (l:Nat) (encs:α→Array Value) (Fx:α→aG) (N:Nat) (R:List α→aG):Prop:=
 ∀(pre:List α) (x:α) (w:World) (B:aG),pre.length<N→Sat W w (sep (R pre) (sep (Fx x) B)) →
  YieldAt F n P l (encs x) w fun e w'=>e=.returned (.bool true)∧Sat W w' (sep (R (pre++[x])) B)
def Gives (F:Fence) (n:Nat) (P:Program) (W:World) (gf:Nat) (lb:Array Value) (encs:α→Array Value) (Fx:α→aG) (N:Nat) (S:List α→Prop) (Pre Post:aG):Prop:=
 ∀(l:Nat) (R:List α→aG) (w:World),Takes F (n-1) P W l encs Fx N R→Sat W w (sep (R []) Pre) →
  CallsIn F n P gf (#[.func (.yield l) #[] #[]]++lb) w fun e w'=>(∃v,e=.returned v)∧∃xs,S xs∧Sat W w' (sep (R xs) Post)
def Round (W:World) (A:aG):Exit→Act→World→Prop
 | .normal,_,w=>Sat W w A
 | _,_,_=>False
theorem MX {n:Nat} {W:World} {g:Operand} {ps:Array Tmp} {assign body:Code} {Q:Exit→Act→World→Prop} {a:Act} {w:World}
 (hro:F.round=none) (h1:1≤n) {gf:Nat} {lb:Array Value} (hg:a.eval g=.func (.func gf) #[] lb) (hFg:F.fn gf) (eg:∀args w,(callFunc gf args).run P w=.ok (.enter gf args) w)
 {encs:α→Array Value} {Fx:α→aG} {N:Nat} {S:List α→Prop} {Pre Post:aG} (hps:∀x,(encs x).size=ps.size)
 (hseq:Gives F (n-1) P W gf lb encs Fx N S Pre Post)
 (C:List α→aG) (h0:Sat W w (sep (C []) Pre)) (a₁:α→Act)
 (hassign:∀(l:Nat) (x:α) (w':World) (K:Act→World→Prop),K (a₁ x) w' →
  assign.wpIn (F.inRound l) (n-1-1) P (Exit.then K (fun _ _ _=>False)) { tmps:=(ps.zip (encs x)).foldl (fun t (p,v)=>t.setIfInBounds p v) a.tmps,defers:=[] } w')
 (hbody:∀(l:Nat) (pre:List α) (x:α) (w':World) (B:aG),pre.length<N→Sat W w' (sep (C pre) (sep (Fx x) B)) →
  body.wpIn (F.inRound l) (n-1-1) P (Round W (sep (C (pre++[x])) B)) (a₁ x) w')
 (hdone:∀(D:Nat) (xs:List α) (w':World),S xs→Sat W w' (sep (blk D (.deferred (some []))) (sep (C xs) Post)) →
  Q .normal { a with defers:={ target:=.collected D,args:=#[] }::a.defers } w'):
 (Code.rangeFunc g ps assign body).wpIn F n P Q a w:=by
 refine wpIn_rangeFunc fun fn hfn=>?_
 rw[hro]
 obtain⟨D,hD⟩:=aC (w.heap.size)
 obtain⟨mk,hmk⟩:∃mk:LoopState→Option Code→Loop,mk=fun st pe=>⟨st,pe,fn,a.tmps,ps,assign,body,D⟩:=⟨_,rfl⟩
 obtain⟨w1,hw1⟩:=aC ((w.alloc (.deferred (some []))).alloc (.loop (mk .ready none)))
 have hS1:Sat W w1 (sep (sep (C []) (sep (blk (D+1) (.loop (mk .ready none))) (blk D (.deferred (some []))))) Pre):=by
  have h:=(h0.alloc (.deferred (some []))).alloc (.loop (mk .ready none))
  rw[World.size_alloc,←hw1,←hD] at h
  simpa only[ay,au,aj] using h
 have henter:=run_enterLoop_outer (P:=P) (w:=w) fn a.tmps ps assign body
 refine⟨D+1,[{ target:=.collected D,args:=#[] }],w1,{ target:=.fn (.func gf) lb,args:=#[.func (.yield (D+1)) #[] #[]] },w1,gf,#[.func (.yield (D+1)) #[] #[]]++lb,w1,?_,?_,?_,?_,fun _=>h1,?_⟩
 ·rw[hw1,hmk,hD];exact henter
 ·simp only[resolve,hg]
  simp[go_sem]
 ·intro f' hf';simp[Target.leads] at hf';subst hf';exact hFg
 ·simp[invoke,go_sem,eg]
 ·refine (hseq (D+1) (fun pre=>sep (C pre) (sep (blk (D+1) (.loop (mk .ready none))) (blk D (.deferred (some []))))) w1 ?_ hS1).mono ?_
  ·intro pre x w2 B hlen hS
   have hl:Sat W w2 (sep (blk (D+1) (.loop (mk .ready none))) (sep (C pre) (sep (Fx x) (sep B (blk D (.deferred (some []))))))):=by simpa only[ay,au,aj] using hS
   have hy:=run_yield (P:=P) (args:=encs x) hl.aN (by rw[hmk];exact hps x)
   rw[hmk] at hy
   refine⟨fn,_,assign,body,hy,roundIn_of_wpIn hfn (hassign _ x w2 _ ⟨_,run_beginRound hl.aN (by rw[hmk]),?_⟩)⟩
   have h3:=(hl.putObj (.loop { mk .ready none with state:=.busy })).p1
   refine wpIn_mono (hbody _ pre x _ (sep (blk (D+1) (.loop { mk .ready none with state:=.busy })) (sep B (blk D (.deferred (some []))))) hlen (by simpa only[ay,au,aj] using h3)) ?_
   rintro e a3 w3 hp
   cases e with
   | normal=>
    have h4:Sat W w3 (sep (blk (D+1) (.loop { mk .ready none with state:=.busy })) (sep (C (pre++[x])) (sep B (blk D (.deferred (some [])))))):=Sat.p1 hp
    have hr:=run_endRound (P:=P) none h4.aN
    have h5:=h4.putObj (.loop (mk .ready none))
    refine⟨_,_,hr,rfl,?_⟩
    have e:({ mk .ready none with state:=.busy }:Loop)=mk .busy none:=by rw[hmk]
    rw[e]
    have e2:({ mk .busy none with state:=if (none:Option Code).isNone then .ready else .done,pending:=none }:Loop)=mk .ready none:=by rw[hmk];rfl
    rw[e2]
    simpa only[ay,au,aj] using h5
   | ret=>exact hp.elim
   | exit id=>exact hp.elim
   | goto t=>exact hp.elim
   | panic ch=>exact hp.elim
   | outgrown=>exact hp.elim
  ·rintro e w2 ⟨⟨v,rfl⟩,xs,hS,h2⟩
   have h3:Sat W w2 (sep (blk (D+1) (.loop (mk .ready none))) (sep (C xs) (sep Post (blk D (.deferred (some [])))))):=by simpa only[ay,au,aj] using h2
   have e:(mk .ready none).pending=none:=by rw[hmk]
   have hr:=run_endLoop (P:=P) h3.aN (by rw[hmk];simp)
   have h4:=(h3.putObj (.loop { mk .ready none with state:=.exhausted })).drop
   rw[e] at hr
   refine⟨none,_,hr,hdone D xs _ hS ?_⟩
   dsimp only at h4
   rw[e] at h4
   simpa only[ay,au,aj] using h4
theorem qp {F:Fence} {n':Nat} {P:Program} {W w:World} {A:aG} {ops:Array Oper} {rest:List Oper} {o:Oper} {ac:Act} {Q:Exit→Act→World→Prop} (hgd:o.guard=none) (s y:Operand) (t:TypeId)
 (ho:o.op=.call { callee:=.builtin .append,args:=#[s,y],argTypes:=#[t,t] })
 (E k IQ:Nat) (z:Value) (ht:P.underlying t=some (.slice E)) (hi:(P.info? E).map (fun i=>(i.zero,i.size,i.bytes))=some (some z,k,IQ)) (hzs:z.cells.size=k)
 {a:Option Addr} {n c:Nat} {xs:List Value} (hs:ac.eval s=.slice a n c) (h:Sat W w (sep (aK E k a n c xs) A))
 {x:Option Addr} {m cc:Nat} (hy:ac.eval y=.slice x m cc) (news:List Value) (hl:news.length=m*k) (hx0:x=none→m=0) (hx:∀b,x=some b→∀j u,news[j]?=some u→w.cell? (b.add j)=some u)
 (h1:∀u∈news,u.oneCell'=true) (hby:(n+m)*IQ≤140737488355328) (h63:n+m≤maxLen)
 (hK:∀a' c' w',Sat W w' (sep (aK E k a' (n+m) c' (xs++news)) A)→wpListIn F n' P ops Q rest (ac.put o.dst (.slice a' (n+m) c')) w'):wpListIn F n' P ops Q (o::rest) ac w:=by
 refine wpListIn_plain hgd fun K hK'=>?_
 obtain⟨i,hi1,hi2,hi3,hi4⟩:=info_parts hi
 obtain⟨a',c',w',hr,hS⟩:=mV t o.type E k IQ i z ht hi1 hi2 hi3 hi4 hzs h x m cc news hl hx0 hx h1 h63 hby
 unfold Oper.wpIn
 refine⟨?_,?_⟩
 ·simp[Oper.about,ho,resolve,Target.leads,Sem.run_pure]
 ·rw[Oper.semAt_plain F _ _ (by rw[ho];intro c hc';cases hc')]
  rw[rH s y t t ho (by rw[hs,hy];exact hr)]
  exact hK' _ _ (hK a' c' w' hS)
end
end PA
namespace PA
open Go Go.RowKit Go.Sort
theorem heap_sortedI {w:World} {g n:Nat} {os:Array Obj} {cur:Array Value} {e:TypeId} {fr:Nat×Nat} (d:Array Int) (hb:w.heap[g]?=some (.cells cur e fr)):
 (grow (putRow (Value.int .i64) (Sort.ahead w n) g 0 d) os).heap[g]?=some (.cells (putCells (Value.int .i64) 0 d cur) e fr):=by
 have hg:g<w.heap.size:=(Array.getElem?_eq_some_iff.1 hb).1
 rw[heap_grow_old _ _ (by simpa using hg)]
 simp[putRow,mapBlock,Sort.ahead,Array.getElem?_modify,hb,onCells]
theorem wE {w:World} {g n:Nat} {os:Array Obj} (d:Array Int) (k:Nat) (hk:k≠g) (hk2:k<w.heap.size):
 (grow (putRow (Value.int .i64) (Sort.ahead w n) g 0 d) os).heap[k]?=w.heap[k]?:=by
 rw[heap_grow_old _ _ (by simpa using hk2)]
 have:g≠k:=fun e=>hk e.symm
 simp[putRow,mapBlock,Sort.ahead,Array.getElem?_modify,this]
theorem take_putCellsI (cur:Array Value) (ts:List Int) (h:ts.length≤cur.size):(putCells (Value.int .i64) 0 ts.toArray cur).toList.take ts.length=ts.map iv:=by
 apply List.ext_getElem?
 intro j
 by_cases hj:j<ts.length
 ·rw[List.getElem?_take_of_lt hj,Array.getElem?_toList]
  simp[putCells,hj,show j<cur.size by omega,iv]
 ·rw[List.getElem?_take_eq_none (by omega),List.getElem?_eq_none (by simp;omega)]
theorem GI {w:World} {g:Nat} {cur:Array Value} {e:TypeId} {zs:List Int} (hb:w.heap[g]?=some (.cells cur e (0,0))) (ht:cur.toList.take zs.length=zs.map iv):Holds (Value.int .i64) w g 0 zs.toArray:=by
 intro j hj
 have hj':j<zs.length:=by simpa using hj
 refine⟨?_,by simp[World.frozen?,hb]⟩
 have h1:(cur.toList.take zs.length)[j]?=(zs.map iv)[j]?:=by rw[ht]
 rw[List.getElem?_take_of_lt hj'] at h1
 simp only[World.cell?,hb,Nat.zero_add]
 simp only[Option.isSome_none,Bool.false_eq_true,if_false]
 rw[←Array.getElem?_toList,h1]
 simp[hj',iv]
theorem Sat.sorted {W w:World} {A:aG} {E g c m:Nat} {zs ts:List Int} {os:Array Obj} (h:Sat W w (sep (aK E 1 (some ⟨g,0,none⟩) zs.length c (zs.map iv)) A)) (hl:ts.length=zs.length):
 Sat W (Go.Sort.grow (putRow (Value.int .i64) (Sort.ahead w m) g 0 ts.toArray) os) (sep (aK E 1 (some ⟨g,0,none⟩) ts.length c (ts.map iv)) A):=by
 rcases h.dL with ⟨e,-⟩|⟨g',cur,e,h1,h2,h3,h4,h5,h6⟩
 ·cases e
 ·cases e
  have h7:=h6.change (o':=.cells (putCells (Value.int .i64) 0 ts.toArray cur) E (0,0)) (w':=Go.Sort.grow (putRow (Value.int .i64) (Sort.ahead w m) g 0 ts.toArray) os) rfl rfl rfl (heap_sortedI _ h6.aN) (fun k hk hk2=>wE _ k hk hk2)
  exact h7.lI ts.length c 1 (ts.map iv) (by simp) (by omega) h3 (by simp[putCells,h4]) (by rw[Nat.mul_one];exact take_putCellsI cur ts (by omega))
end PA
namespace Go.Proofs.YtgicfogmdfdjmaaGreatDoor
open Go.RowKit PA
attribute [local go_sem] Oper.semAt_some
def oP (zs:List Int):List Int:=zs.mergeSort fun x y=>decide (x≤y)
theorem Nb {W w:World} {A:aG} (a:Option Addr) (c:Nat) (zs:List Int) (hz:zs.length<4611686018427387904) (h:Sat W w (sep (aK 3 1 a zs.length c (zs.map iv)) A)):
 Calls Tryz.prog 61 #[.slice a zs.length c] w fun e w'=>e=.returned (.tuple #[])∧Sat W w' (sep (aK 3 1 a zs.length c ((oP zs).map iv)) A):=by
 rcases h.dL with ⟨rfl,h1,rfl,h2,h3⟩|⟨g,cur,rfl,h1,h2,h3,h4,h5,h6⟩
 ·have hz0:zs=[]:=List.eq_nil_of_length_eq_zero h1
  subst hz0
  refine (AnyM.slices_Sort_int_none sortA none 0 w).mono ?_
  rintro e w' ⟨rfl,rfl⟩
  have e0:oP []=[]:=by simp[oP]
  rw[e0]
  exact⟨rfl,h⟩
 ·have hH:=GI (zs:=zs) h6.aN (by rw[Nat.mul_one] at h5;exact h5)
  refine (AnyM.slices_Sort_int sortA g 0 c zs w hH h6.lt hz).mono ?_
  rintro e w' ⟨rfl,m,os,rfl⟩
  refine⟨rfl,?_⟩
  have hl:(oP zs).length=zs.length:=by simp[oP]
  have:=h.sorted (ts:=oP zs) (m:=m) (os:=os) hl
  rw[hl] at this
  exact this
def AV (x:Int):Array Value:=#[.int .i64 x]
def noA (_:Int):aG:=emp
theorem O6:(Tryz.prog.info? 3).map (fun i=>(i.zero,i.size,i.bytes))=some (some (.int .i64 0),1,8):=by kernel_rfl
set_option maxRecDepth 100000 in
set_option maxHeartbeats 2000000 in
theorem appendSeq_in {W w:World} {Pre Post:aG} {S:List Int→Prop} (n N gf:Nat) (lb:Array Value) (hn:2≤n) (hN:N≤1000000000) (eg:∀args w,(callFunc gf args).run Tryz.prog w=.ok (.enter gf args) w)
 (hseq:Gives Fence.wide (n-1) Tryz.prog W gf lb AV noA N S Pre Post) (h:Sat W w Pre):
 CallsIn Fence.wide n Tryz.prog 75 #[.slice none 0 0,.func (.func gf) #[] lb] w fun e w'=>∃a c xs,e=.returned (.slice a xs.length c)∧S xs∧xs.length≤N∧Sat W w' (sep (aK 3 1 a xs.length c (xs.map iv)) Post):=by
 refine callsIn_of_wp_marks Tryz.func75 rfl trivial ?_ rfl
 simp only[Tryz.ntmps75,List.size_toArray,List.length_cons,List.length_nil,Nat.reduceAdd,Nat.reduceSub,Array.replicate_succ,Array.replicate_zero,List.push_toArray,List.append_toArray,List.nil_append,List.cons_append]
 obtain⟨B,hB⟩:=aC (w.heap.size)
 have h1:=(h.cZ 3 1).alloc (.cells #[.slice none 0 0] 22)
 rw[←hB] at h1
 obtain⟨w1,hw1⟩:=aC (w.alloc (.cells #[.slice none 0 0] 22))
 rw[←hw1] at h1
 have HB:=ah hB
 have HW1:=ah hw1
 clear hB hw1 h
 gi_wp2_with fail
 rw[←HW1.out,←HB.out]
 refine MX (F:=Fence.wide) (W:=W) rfl (by omega) (gf:=gf) (lb:=lb) rfl trivial eg (encs:=AV) (fun _=>rfl) hseq
  (fun xs=>ex fun p:Option Addr×Nat=>sep (fact (xs.length≤N)) (sep (blk B (.cells #[.slice p.1 xs.length p.2] 22 (0,0))) (aK 3 1 p.1 xs.length p.2 (xs.map iv)))) ?_
  (fun x=>{ tmps:=#[.slice none 0 0,.func (.func gf) #[] lb,.pointer (some ⟨B,0,none⟩),undef,.slice none 0 0,.int .i64 x,.func (.func gf) #[] lb,.int .i64 x,undef,undef,undef,undef,undef],defers:=[] }) ?assign ?body ?done
 ·rw[dA,Sat.ex]
  refine⟨(none,0),?_⟩
  rw[aj]
  refine Sat.fact.2 ⟨Nat.zero_le _,?_⟩
  show Sat W w1 (sep (sep (blk B (.cells #[.slice none 0 0] 22 (0,0))) (aK 3 1 none 0 0 [])) Pre)
  simpa only[ay,au,aj] using h1
 case assign=>
  intro lp x w' K hK
  dsimp only[AV]
  gi_wp2
  exact hK
 case body=>
  intro lp pre x w' A' hlen hS
  rw[dA,Sat.ex] at hS
  obtain⟨⟨oa,oc⟩,hS⟩:=hS
  dsimp only at hS
  rw[aj] at hS
  have hS2:=(Sat.fact.1 hS).2
  obtain⟨pl,hpl⟩:=aC (pre.length)
  rw[←hpl] at hS2 hlen
  have h2:Sat W w' (sep (blk B (.cells #[.slice oa pl oc] 22 (0,0))) (sep (aK 3 1 oa pl oc (pre.map iv)) A')):=by
   have:Sat W w' (sep (emp) (sep (blk B (.cells #[.slice oa pl oc] 22 (0,0))) (sep (aK 3 1 oa pl oc (pre.map iv)) A'))):=by simpa only[noA,ay,au,aj] using hS2
   rwa [bU] at this
  have hbox:w'.cell? ⟨B,0,none⟩=some (.slice oa pl oc):=h2.cell 0
  have h3:=(h2.alloc (.cells #[.int .i64 x] 3)).p2
  have RS:=ah hpl
  clear hS hS2 h2 hpl
  gi_wp2_with (gi_at_builtin;refine qp rfl (.tmp 8) (.tmp 10) 22 rfl 3 1 8 (.int .i64 0) Tryz.underlying22 O6 rfl rfl h3 rfl [.int .i64 x] rfl (by simp) (by intro b hb;cases hb;exact dS _ [_] _) (by simp[Value.oneCell']) (by omega) (by unfold maxLen;omega) ?_)
  intro LH LJ w2 h4
  have h5:=h4.p2
  have hf:=h5.aI 0
  have hc:=h5.cell 0
  have h6:=h5.setCell 0 (.slice LH (pl+1) LJ)
  clear h3 h4 h5 hbox
  gi_wp2_with fail
  show Sat W _ _
  have e:(pre++[x]).length=pl+1:=by rw[dI,←RS.out];rfl
  rw[dA,Sat.ex]
  refine⟨(LH,LJ),?_⟩
  dsimp only
  rw[aj]
  refine Sat.fact.2 ⟨by rw[e];omega,?_⟩
  rw[e,lS]
  show Sat W _ (sep (sep (blk B (.cells #[.slice LH (pl+1) LJ] 22 (0,0))) (aK 3 1 LH (pl+1) LJ (pre.map iv++[.int .i64 x]))) A')
  have h7:=h6.p2.drop
  simpa only[ay,au,aj,List.setIfInBounds_toArray,List.set_cons_zero] using h7
 case done=>
  intro D xs w' hS hS'
  have h2:Sat W w' (sep (ex _) _):=hS'.p1
  rw[dA,Sat.ex] at h2
  obtain⟨⟨oa,oc⟩,h2⟩:=h2
  dsimp only at h2
  rw[aj] at h2
  obtain⟨hle,h3⟩:=Sat.fact.1 h2
  obtain⟨ll,hll⟩:=aC (xs.length)
  rw[←hll] at h3
  have h4:Sat W w' (sep (blk B (.cells #[.slice oa ll oc] 22 (0,0))) (sep (blk D (.deferred (some []))) (sep (aK 3 1 oa ll oc (xs.map iv)) Post))):=by simpa only[ay,au,aj] using h3
  have hc1:w'.cell? ⟨B,0,none⟩=some (.slice oa ll oc):=h4.cell 0
  have hD:=h4.p1.aN
  have HS:=ah hS
  have LK:=ah hll
  have gQ:=ah hle
  clear hS hS' h2 h3 hll hle
  gi_wp2_with fail
  refine⟨by simp,.inl ⟨_,_,rfl,run_takeDeferred hD,?_⟩⟩
  refine⟨_,results_tmp rfl _ _ _,oa,oc,xs,by rw[←LK.out];rfl,HS.out,gQ.out,?_⟩
  rw[←LK.out]
  exact (h4.p1.putObj (.deferred none)).drop.drop
set_option maxRecDepth 100000 in
theorem collect_in {W w:World} {Pre Post:aG} {S:List Int→Prop} (n N gf:Nat) (lb:Array Value) (hn:3≤n) (hN:N≤1000000000) (eg:∀args w,(callFunc gf args).run Tryz.prog w=.ok (.enter gf args) w)
 (hseq:Gives Fence.wide (n-1-1) Tryz.prog W gf lb AV noA N S Pre Post) (h:Sat W w Pre):
 CallsIn Fence.wide n Tryz.prog 60 #[.func (.func gf) #[] lb] w fun e w'=>∃a c xs,e=.returned (.slice a xs.length c)∧S xs∧xs.length≤N∧Sat W w' (sep (aK 3 1 a xs.length c (xs.map iv)) Post):=by
 refine callsIn_of_wp Tryz.func60 rfl trivial ?_ rfl
 simp only[Tryz.ntmps60,List.size_toArray,List.length_cons,List.length_nil,Nat.reduceAdd,Nat.reduceSub,Array.replicate_succ,Array.replicate_zero,List.push_toArray,List.append_toArray,List.nil_append,List.cons_append]
 have h1:=appendSeq_in (n-1) N gf lb (by omega) hN eg hseq h
 have H1:=ah h1
 clear h1 h hseq
 gi_wp2_with fail
 refine⟨trivial,fun _=>by omega,H1.out.mono ?_⟩
 rintro e w' ⟨a,c,xs,rfl,h2,h3,h4⟩
 have HH:=ah (And.intro h2 h3)
 obtain⟨l,hl⟩:=aC (xs.length)
 rw[←hl] at h4 ⊢
 have HL:=ah hl
 clear h2 h3 hl
 gi_wp2_with fail
 go_ret
 exact⟨a,c,xs,by rw[←HL.out];rfl,HH.out.1,HH.out.2,by rw[←HL.out];exact h4⟩
set_option maxRecDepth 100000 in
theorem sorted_in {W w:World} {Pre Post:aG} {S:List Int→Prop} (n N gf:Nat) (lb:Array Value) (hn:4≤n) (hN:N≤1000000000) (eg:∀args w,(callFunc gf args).run Tryz.prog w=.ok (.enter gf args) w)
 (hseq:Gives Fence.wide (n-1-1-1) Tryz.prog W gf lb AV noA N S Pre Post) (h:Sat W w Pre):
 CallsIn Fence.wide n Tryz.prog 43 #[.func (.func gf) #[] lb] w fun e w'=>∃a c xs,e=.returned (.slice a xs.length c)∧S xs∧xs.length≤N∧Sat W w' (sep (aK 3 1 a xs.length c ((oP xs).map iv)) Post):=by
 refine callsIn_of_wp Tryz.func43 rfl trivial ?_ rfl
 simp only[Tryz.ntmps43,List.size_toArray,List.length_cons,List.length_nil,Nat.reduceAdd,Nat.reduceSub,Array.replicate_succ,Array.replicate_zero,List.push_toArray,List.append_toArray,List.nil_append,List.cons_append]
 have h1:=collect_in (n-1) N gf lb (by omega) hN eg hseq h
 have H1:=ah h1
 clear h1 h hseq
 gi_wp2_with fail
 refine⟨trivial,fun _=>by omega,H1.out.mono ?_⟩
 rintro e w' ⟨a,c,xs,rfl,h2,h3,h4⟩
 have h5:=Nb a c xs (by omega) h4
 have HH:=ah (And.intro h2 h3)
 obtain⟨l,hl⟩:=aC (xs.length)
 rw[←hl] at h5 ⊢
 have HL:=ah hl
 have H5:=ah h5
 clear h2 h3 h4 h5 hl
 gi_wp2_with fail
 refine⟨trivial,fun _=>by omega,(callsIn_wide.2 H5.out).mono ?_⟩
 rintro e w' ⟨rfl,h6⟩
 clear H5
 gi_wp2_with fail
 go_ret
 exact⟨a,c,xs,by rw[←HL.out];rfl,HH.out.1,HH.out.2,by rw[←HL.out];exact h6⟩
def KeysOf (f:Int→Option Value) (ks:List Int):Prop:=ks.Pairwise (·<·)∧∀k,k∈ks↔(f k).isSome=true
theorem Jp {f:Int→Option Value} {xs:List Int} (h1:xs.Nodup) (h2:∀k,k∈xs↔(f k).isSome=true):KeysOf f (oP xs)∧(oP xs).length=xs.length:=by
 have hp:(oP xs).Perm xs:=List.mergeSort_perm _ _
 have hs:(oP xs).Pairwise (fun a b=>decide (a≤b)=true):=List.pairwise_mergeSort (fun a b c h1 h2=>by simp at *;omega) (fun a b=>by simp;omega) xs
 have hn:(oP xs).Nodup:=hp.nodup_iff.2 h1
 refine⟨⟨?_,fun k=>by rw[hp.mem_iff];exact h2 k⟩,hp.length_eq⟩
 have hboth:=List.Pairwise.and hs hn
 exact hboth.imp fun h=>by simp at h;omega
end Go.Proofs.YtgicfogmdfdjmaaGreatDoor
namespace Go.Proofs.YtgicfogmdfdjmaaGreatDoor
open Go.RowKit PA
attribute [local go_sem] Oper.semAt_some
set_option maxRecDepth 100000 in
set_option maxHeartbeats 2000000 in
theorem Jo {W:World} {A:aG} (n:Nat) (hn:1≤n) (Bs b:Nat) (f:Int→Option Value) (nf:Nat):
 Gives Fence.wide n Tryz.prog W 62 #[.pointer (some ⟨Bs,0,none⟩)] AV noA nf (fun xs=>xs.Nodup∧∀k,k∈xs↔(f k).isSome=true)
  (sep (blk Bs (.cells #[.map (some b)] 76 (0,0))) (sep (iP b f nf) A)) (sep (iP b f nf) A):=by
 intro lp R w hY h0
 have HY:=ah hY
 clear hY
 have c0:w.cell? ⟨Bs,0,none⟩=some (.map (some b)):=h0.p1.cell 0
 obtain⟨w1,hrun,h1⟩:=Au (P:=Tryz.prog) Tryz.underlying76 h0.p2
 obtain⟨r,hr⟩:=aC (w.heap.size)
 rw[←hr] at hrun h1
 have h2:Sat W w1 (sep (R []) (sep (rng b r f nf (fun k=>(f k).isSome) nf) A)):=by
  have:=h1.p2.drop
  simpa only[ay,au,aj] using this
 clear h0 h1 hr
 refine callsIn_of_wp Tryz.func62 rfl trivial ?_ rfl
 simp only[Tryz.ntmps62,List.size_toArray,List.length_cons,List.length_nil,Nat.reduceAdd,Nat.reduceSub,Array.replicate_succ,Array.replicate_zero,List.push_toArray,List.append_toArray,List.nil_append,List.cons_append]
 gi_wp2_with fail
 gi_loopw [] (fun wr=>∃(pre:List Int) (cnt:Nat) (lf:Int→Bool),pre.Nodup∧(∀k,k∈pre↔(f k).isSome=true∧lf k=false)∧(∀k,lf k=true→(f k).isSome=true)∧pre.length+cnt≤nf∧Sat W wr (sep (R pre) (sep (rng b r f nf lf cnt) A))) (fun wr=>wr.rangeLeft b r)
 case atStart=>exact⟨[],nf,_,List.nodup_nil,fun k=>⟨fun h=>(by cases h),fun h=>(by rw[h.1] at h;exact absurd h.2 (by decide))⟩,fun k hk=>hk,by simp,h2⟩
 case round=>
  clear h2 hrun c0
  obtain⟨pre,cnt,lf,hnd,hmem,hlf,hlen,hS⟩:=hrel
  have hcnt:=hS.p1.IY
  rcases Gj (P:=Tryz.prog) 0 hS.p1 with ⟨hno,hrun⟩|⟨k,v,w2,cnt2,hlk,hfk,hlt,hrun,hen,hS2⟩
  ·have HH:=ah (And.intro hnd (And.intro hmem hno))
   clear hnd hmem hlf hlen hcnt hno
   gi_wp2_with fail
   go_end0
   refine⟨⟨_,rfl⟩,pre,⟨HH.out.1,fun k=>?_⟩,?_⟩
   ·rw[HH.out.2.1 k,HH.out.2.2 k];simp
   ·have:=hS.p1.Xc
    exact this.p1
  ·have hx:Sat W w2 (sep (R pre) (sep (noA k) (sep (rng b r f nf (fun z=>lf z&&z !=k) cnt2) A))):=by
    show Sat W w2 (sep (R pre) (sep emp (sep (rng b r f nf (fun z=>lf z&&z !=k) cnt2) A)))
    rw[bU]
    exact hS2.p1
   obtain⟨fn,tmps,assign,body,hy,hR⟩:=HY.out pre k w2 _ (by omega) hx
   dsimp only[AV] at hy
   have HH:=ah (And.intro hnd (And.intro hmem (And.intro hlf (And.intro hlen (And.intro hcnt (And.intro hlt hlk))))))
   clear hnd hmem hlf hlen hcnt hlt hlk hfk hS hS2 hx
   gi_wp2_with fail
   refine hR.mono ?_
   rintro e' w5 ⟨rfl,h9⟩
   clear hR hy hrun hen
   obtain⟨q1,q2,q3,q4,q5,q6,q7⟩:=HH.out
   gi_wp2_with fail
   go_roundw
   case rel=>
    refine⟨pre++[k],cnt2,_,?_,fun z=>?_,fun z hz=>?_,?_,h9⟩
    ·refine List.nodup_append.2 ⟨q1,by simp,fun x hx y hy=>?_⟩
     rw[List.mem_singleton.1 hy]
     intro e
     subst e
     have:=((q2 x).1 hx).2
     rw[q7] at this;cases this
    ·by_cases hzk:z=k
     ·subst hzk
      simp[q3 z q7]
     ·have:(z !=k)=true:=by simp[hzk]
      rw[List.mem_append,List.mem_singleton,this,Bool.and_true,←q2 z]
      simp[hzk]
    ·simp at hz
     exact q3 z hz.1
    ·rw[dI,List.length_singleton];omega
   case measure=>rw[h9.p1.IY,q5];exact q6
theorem keys_in (n:Nat) (b:Nat) (w:World):
 CallsIn Fence.wide n Tryz.prog 44 #[.map (some b)] w fun e w'=>e=.returned (.func (.func 62) #[] #[.pointer (some ⟨w.heap.size,0,none⟩)])∧w'=w.alloc (.cells #[.map (some b)] 76):=by
 refine callsIn_of_wp Tryz.func44 rfl trivial ?_ rfl
 simp only[Tryz.ntmps44,List.size_toArray,List.length_cons,List.length_nil,Nat.reduceAdd,Nat.reduceSub,Array.replicate_succ,Array.replicate_zero,List.push_toArray,List.append_toArray,List.nil_append,List.cons_append]
 gi_wp2_with fail
 go_ret
 exact⟨rfl,rfl⟩
theorem Qe {W w:World} {A:aG} (b:Nat) (f:Int→Option Value) (nf:Nat) (h:Sat W w (sep (iP b f nf) A)):
 Calls Tryz.prog 44 #[.map (some b)] w fun e w'=>e=.returned (.func (.func 62) #[] #[.pointer (some ⟨w.heap.size,0,none⟩)])∧Sat W w' (sep (blk w.heap.size (.cells #[.map (some b)] 76 (0,0))) (sep (iP b f nf) A)):=by
 refine (callsIn_wide (n:=1)).1 ((keys_in 1 b w).mono ?_)
 rintro e w' ⟨rfl,rfl⟩
 exact⟨rfl,h.alloc _⟩
theorem zD {W w:World} {A:aG} (Bs b:Nat) (f:Int→Option Value) (nf:Nat) (hN:nf≤1000000000) (h:Sat W w (sep (blk Bs (.cells #[.map (some b)] 76 (0,0))) (sep (iP b f nf) A))):
 Calls Tryz.prog 43 #[.func (.func 62) #[] #[.pointer (some ⟨Bs,0,none⟩)]] w fun e w'=>∃a c ks,e=.returned (.slice a ks.length c)∧KeysOf f ks∧ks.length≤nf∧Sat W w' (sep (aK 3 1 a ks.length c (ks.map iv)) (sep (iP b f nf) A)):=by
 refine (callsIn_wide (n:=5)).1 ((sorted_in 5 nf 62 _ (by omega) hN (enters_of Tryz.func62 (by kernel_rfl) rfl) (Jo (5-1-1-1) (by omega) Bs b f nf) h).mono ?_)
 rintro e w' ⟨a,c,xs,rfl,⟨h1,h2⟩,h3,h4⟩
 obtain⟨hk,hl⟩:=Jp h1 h2
 refine⟨a,c,oP xs,by rw[hl],hk,by omega,?_⟩
 rw[hl]
 exact h4
end Go.Proofs.YtgicfogmdfdjmaaGreatDoor
namespace PA
open Go Go.RowKit
def PZ (e:MapEntry):Int:=match e.key with|.int _ k=>k|_=>0
theorem nodup_range:∀(N:Nat) (l:List Int),l.Nodup→(∀x∈l,0≤x∧x<N)→l.length≤N
 | 0,l,_,hr=>by
  cases l with
  | nil=>simp
  | cons x l=>have:=hr x (by simp);omega
 | N+1,l,hn,hr=>by
  by_cases hm:(N:Int)∈l
  ·have ih:=nodup_range N (l.erase (N:Int)) (hn.erase _) (fun x hx=>by
    have h1:=(List.Nodup.mem_erase_iff hn).1 hx
    have h2:=hr x h1.2
    have h3:=h1.1
    omega)
   rw[List.length_erase_of_mem hm] at ih
   omega
  ·have ih:=nodup_range N l hn (fun x hx=>by
    have h2:=hr x hx
    have h3:x≠(N:Int):=fun e=>hm (by rw[←e];exact hx)
    omega)
   omega
theorem LZ {W w:World} {A:aG} {b:Nat} {f:Int→Option Value} {n:Nat} (N:Nat) (h:Sat W w (sep (iP b f n) A)) (hf:∀k,(f k).isSome=true→0≤k∧k<N):n≤N:=by
 obtain⟨es,clock,h1,h2,-,-⟩:=h.oL
 have hk:∀e∈es.toList,e.key=.int .i64 (PZ e)∧0≤PZ e∧PZ e<N:=fun e he=>by
  obtain⟨k,hk⟩:=h1.keys e he
  have hz:PZ e=k:=by unfold PZ;rw[hk]
  rw[hz]
  refine⟨hk,hf k ?_⟩
  rw[h1.qV he hk];rfl
 have:=nodup_range N (es.toList.map PZ) (by
  rw[List.Nodup,List.pairwise_map]
  refine List.Pairwise.imp_of_mem ?_ h1.nodup
  intro a b ha hb hne e
  exact hne (by rw[(hk a ha).1,(hk b hb).1,e])) (fun x hx=>by
   obtain⟨e,he,rfl⟩:=List.mem_map.1 hx
   exact (hk e he).2)
 rw[List.length_map,Array.length_toList] at this
 omega
end PA
namespace PA
open Go Go.RowKit
def wm (w:World):Mem:=fun b=>w.heap[b]?
theorem Sat.WY (W:World):Sat W W (sep (kn (wm W)) emp):=
 ⟨rfl,rfl,rfl,wm W,Mem.no,fun _ _ h=>h,fun _ _ h=>h,fun _ _ h=>(by simp[Mem.no] at h),Mem.no,Mem.no,fun _=>.inl rfl,(Mem.qP _).symm,⟨rfl,Mem.le_refl _⟩,rfl⟩
theorem kX {I:Mem} {v:Value} {ns:List Int}:(qI.slice 1).rel I [v] ns↔∃a c,v=.slice a ns.length c∧zB a ns.length c∧bP a (ns.map iv) I:=by
 constructor
 ·rintro⟨a,c,cells,h1,h2,h3,h4⟩
  cases h1
  rw[(EI _ _ _).1 h4] at h3
  exact⟨a,c,rfl,h2,h3⟩
 ·rintro⟨a,c,rfl,h2,h3⟩
  exact⟨a,c,_,rfl,h2,h3,(EI _ _ _).2 rfl⟩
theorem LX {w:World} {x:Addr} {us:List Value} (h:∀j u,us[j]?=some u→w.cell? (x.add j)=some u):bP (some x) us (wm w):=by
 cases us with
 | nil=>exact .inl rfl
 | cons u us=>
  right
  have h0:=h 0 u rfl
  have e0:x.add 0=x:=rfl
  rw[e0] at h0
  obtain⟨b,o,sp⟩:=x
  unfold World.cell? at h0
  dsimp only at h0
  cases hb:w.heap[b]? with
  | none=>rw[hb] at h0;cases h0
  | some ob=>
   rw[hb] at h0
   cases ob with
   | cells c t f=>
    dsimp only at h0
    cases sp with
    | some q=>simp at h0
    | none=>
     refine⟨b,o,c,t,f,rfl,hb,fun i v hv=>?_⟩
     have hi:=h i v hv
     have e:(⟨b,o,none⟩:Addr).add i=⟨b,o+i,none⟩:=by unfold Addr.add;split<;>simp_all
     rw[e] at hi
     unfold World.cell? at hi
     dsimp only at hi
     rw[hb] at hi
     simpa using hi
   | _=>cases h0
end PA
namespace Go.Proofs.YtgicfogmdfdjmaaGreatDoor
open Go.RowKit PA
def IW (n:Int):Prop:=-9223372036854775808≤n∧n≤9223372036854775807
def SB (w:World) (a:Option Addr) (len cap:Nat) (zs:List Int):Prop:=
 (a=none∧len=0∧cap=0∧zs=[]) ∨
 ∃x,a=some x∧len≤cap∧cap≤maxLen∧zs.length=cap∧(∀i,i<zs.length→w.cell? (x.add i)=some (.int .i64 (zs.getD i 0)))∧∀n∈zs,(Lit.int .i64 n).wf=true
theorem argI {w:World} {a:Option Addr} {len cap:Nat} {zs:List Int} (h:SB w a len cap zs):
 ∃l:List Int,len=l.length∧(qI.slice 1).rel (wm w) [.slice a len cap] l∧∀n∈l,IW n:=by
 rcases h with ⟨rfl,rfl,rfl,rfl⟩|⟨x,rfl,h1,h2,h3,h4,h5⟩
 ·exact⟨[],rfl,kX.2 ⟨none,0,rfl,⟨Nat.le_refl _,Nat.zero_le _,fun _=>rfl⟩,.inl rfl⟩,fun n hn=>by cases hn⟩
 ·have hl:len=(zs.take len).length:=by simp;omega
  refine⟨zs.take len,hl,kX.2 ⟨some x,cap,by rw[←hl],⟨by rw[←hl];exact h1,h2,fun e=>by cases e⟩,LX fun j u hu=>?_⟩,fun n hn=>?_⟩
  ·rw[List.getElem?_map,List.getElem?_take] at hu
   split at hu
   ·rename_i hj
    have hjz:j<zs.length:=by omega
    rw[List.getElem?_eq_getElem hjz] at hu
    rw[h4 j hjz,←hu,List.getD_eq_getElem?_getD,List.getElem?_eq_getElem hjz]
    rfl
   ·cases hu
  ·exact xC (h5 n (List.mem_of_mem_take hn))
end Go.Proofs.YtgicfogmdfdjmaaGreatDoor
namespace PA
open Go Go.RowKit
def Ef (N:Nat) (f:Nat→Rt):List Value:=(List.range N).flatMap fun i=>[.int .i64 (f i).n,.int .i64 (f i).d]
def rJ (f:Nat→Rt) (i:Nat) (r:Rt):Nat→Rt:=fun k=>if k=i then r else f k
theorem xW (N:Nat) (f:Nat→Rt):Ef (N+1) f=Ef N f++[.int .i64 (f N).n,.int .i64 (f N).d]:=by
 unfold Ef
 rw[List.range_succ,List.flatMap_append]
 simp
theorem rM (N:Nat) (f:Nat→Rt):(Ef N f).length=N*2:=by
 induction N with
 | zero=>rfl
 | succ N ih=>rw[xW,dI,ih];simp;omega
theorem O4:∀(N:Nat) (f:Nat→Rt) (i:Nat),i<N→(Ef N f)[i*2]?=some (.int .i64 (f i).n)∧(Ef N f)[i*2+1]?=some (.int .i64 (f i).d)
 | 0,_,_,h=>by omega
 | N+1,f,i,h=>by
  rw[xW]
  by_cases hi:i<N
  ·have:=O4 N f i hi
   rw[List.getElem?_append_left (by rw[rM];omega),List.getElem?_append_left (by rw[rM];omega)]
   exact this
  ·obtain rfl:i=N:=by omega
   rw[List.getElem?_append_right (by rw[rM];omega),List.getElem?_append_right (by rw[rM];omega),rM,Nat.sub_self,Nat.add_sub_cancel_left]
   exact⟨rfl,rfl⟩
section
variable {W w:World} {A:aG} {t g N:Nat} {f:Nat→Rt}
end
end PA
namespace PA
open Go Go.RowKit
section
variable {α:Type} {F:Fence} {P:Program}
theorem JA {n:Nat} {W:World} {g:Operand} {ps:Array Tmp} {assign body:Code} {Q:Exit→Act→World→Prop} {a:Act} {w:World}
 (hro:F.round=none) (h1:1≤n) {gf:Nat} {lb:Array Value} (hg:a.eval g=.func (.func gf) #[] lb) (hFg:F.fn gf) (eg:∀args w,(callFunc gf args).run P w=.ok (.enter gf args) w)
 {encs:α→Array Value} {Fx:α→aG} {N:Nat} {S:List α→Prop} {Pre Post:aG} (hps:∀x,(encs x).size=ps.size)
 (hseq:Gives F (n-1) P W gf lb encs Fx N S Pre Post)
 (C:List α→aG) (h0:Sat W w (sep (C []) Pre)) (Mid:List α→α→Act→aG→Prop)
 (hassign:∀(l:Nat) (pre:List α) (x:α) (w':World) (B:aG) (K:Act→World→Prop),pre.length<N→Sat W w' (sep (C pre) (sep (Fx x) B))→(∀a₁ w₁ E,Mid pre x a₁ E→Sat W w₁ (sep E B)→K a₁ w₁) →
  assign.wpIn (F.inRound l) (n-1-1) P (Exit.then K (fun _ _ _=>False)) { tmps:=(ps.zip (encs x)).foldl (fun t (p,v)=>t.setIfInBounds p v) a.tmps,defers:=[] } w')
 (hbody:∀(l:Nat) (pre:List α) (x:α) (a₁:Act) (E:aG) (w':World) (B:aG),pre.length<N→Mid pre x a₁ E→Sat W w' (sep E B) →
  body.wpIn (F.inRound l) (n-1-1) P (Round W (sep (C (pre++[x])) B)) a₁ w')
 (hdone:∀(D:Nat) (xs:List α) (w':World),S xs→Sat W w' (sep (blk D (.deferred (some []))) (sep (C xs) Post)) →
  Q .normal { a with defers:={ target:=.collected D,args:=#[] }::a.defers } w'):
 (Code.rangeFunc g ps assign body).wpIn F n P Q a w:=by
 refine wpIn_rangeFunc fun fn hfn=>?_
 rw[hro]
 obtain⟨D,hD⟩:=aC (w.heap.size)
 obtain⟨mk,hmk⟩:∃mk:LoopState→Option Code→Loop,mk=fun st pe=>⟨st,pe,fn,a.tmps,ps,assign,body,D⟩:=⟨_,rfl⟩
 obtain⟨w1,hw1⟩:=aC ((w.alloc (.deferred (some []))).alloc (.loop (mk .ready none)))
 have hS1:Sat W w1 (sep (sep (C []) (sep (blk (D+1) (.loop (mk .ready none))) (blk D (.deferred (some []))))) Pre):=by
  have h:=(h0.alloc (.deferred (some []))).alloc (.loop (mk .ready none))
  rw[World.size_alloc,←hw1,←hD] at h
  simpa only[ay,au,aj] using h
 have henter:=run_enterLoop_outer (P:=P) (w:=w) fn a.tmps ps assign body
 refine⟨D+1,[{ target:=.collected D,args:=#[] }],w1,{ target:=.fn (.func gf) lb,args:=#[.func (.yield (D+1)) #[] #[]] },w1,gf,#[.func (.yield (D+1)) #[] #[]]++lb,w1,?_,?_,?_,?_,fun _=>h1,?_⟩
 ·rw[hw1,hmk,hD];exact henter
 ·simp only[resolve,hg]
  simp[go_sem]
 ·intro f' hf';simp[Target.leads] at hf';subst hf';exact hFg
 ·simp[invoke,go_sem,eg]
 ·refine (hseq (D+1) (fun pre=>sep (C pre) (sep (blk (D+1) (.loop (mk .ready none))) (blk D (.deferred (some []))))) w1 ?_ hS1).mono ?_
  ·intro pre x w2 B hlen hS
   have hl:Sat W w2 (sep (blk (D+1) (.loop (mk .ready none))) (sep (C pre) (sep (Fx x) (sep B (blk D (.deferred (some []))))))):=by simpa only[ay,au,aj] using hS
   have hy:=run_yield (P:=P) (args:=encs x) hl.aN (by rw[hmk];exact hps x)
   rw[hmk] at hy
   refine⟨fn,_,assign,body,hy,roundIn_of_wpIn hfn (hassign _ pre x w2 (sep (blk (D+1) (.loop (mk .ready none))) (sep B (blk D (.deferred (some []))))) _ hlen (by simpa only[ay,au,aj] using hS) ?_)⟩
   intro a₁ w₁ E hmid hE
   have hl1:Sat W w₁ (sep (blk (D+1) (.loop (mk .ready none))) (sep E (sep B (blk D (.deferred (some [])))))):=by simpa only[ay,au,aj] using hE
   refine⟨_,run_beginRound hl1.aN (by rw[hmk]),?_⟩
   have h3:=(hl1.putObj (.loop { mk .ready none with state:=.busy })).p1
   refine wpIn_mono (hbody _ pre x a₁ E _ (sep (blk (D+1) (.loop { mk .ready none with state:=.busy })) (sep B (blk D (.deferred (some []))))) hlen hmid (by simpa only[ay,au,aj] using h3)) ?_
   rintro e a3 w3 hp
   cases e with
   | normal=>
    have h4:Sat W w3 (sep (blk (D+1) (.loop { mk .ready none with state:=.busy })) (sep (C (pre++[x])) (sep B (blk D (.deferred (some [])))))):=Sat.p1 hp
    have hr:=run_endRound (P:=P) none h4.aN
    have h5:=h4.putObj (.loop (mk .ready none))
    refine⟨_,_,hr,rfl,?_⟩
    have e:({ mk .ready none with state:=.busy }:Loop)=mk .busy none:=by rw[hmk]
    rw[e]
    have e2:({ mk .busy none with state:=if (none:Option Code).isNone then .ready else .done,pending:=none }:Loop)=mk .ready none:=by rw[hmk];rfl
    rw[e2]
    simpa only[ay,au,aj] using h5
   | ret=>exact hp.elim
   | exit id=>exact hp.elim
   | goto t=>exact hp.elim
   | panic ch=>exact hp.elim
   | outgrown=>exact hp.elim
  ·rintro e w2 ⟨⟨v,rfl⟩,xs,hS,h2⟩
   have h3:Sat W w2 (sep (blk (D+1) (.loop (mk .ready none))) (sep (C xs) (sep Post (blk D (.deferred (some [])))))):=by simpa only[ay,au,aj] using h2
   have e:(mk .ready none).pending=none:=by rw[hmk]
   have hr:=run_endLoop (P:=P) h3.aN (by rw[hmk];simp)
   have h4:=(h3.putObj (.loop { mk .ready none with state:=.exhausted })).drop
   rw[e] at hr
   refine⟨none,_,hr,hdone D xs _ hS ?_⟩
   dsimp only at h4
   rw[e] at h4
   simpa only[ay,au,aj] using h4
theorem JB {n:Nat} {W:World} {g:Operand} {ps:Array Tmp} {assign body:Code} {Q:Exit→Act→World→Prop} {a:Act} {w:World}
 (hro:F.round=none) (h1:1≤n) {gf:Nat} {lb:Array Value} (hg:a.eval g=.func (.func gf) #[] lb) (hFg:F.fn gf) (eg:∀args w,(callFunc gf args).run P w=.ok (.enter gf args) w)
 {encs:α→Array Value} {Fx:α→aG} {N:Nat} {S:List α→Prop} {Pre Post:aG} (hps:∀x,(encs x).size=ps.size)
 (hseq:Gives F (n-1) P W gf lb encs Fx N S Pre Post)
 (C:List α→aG) (h0:Sat W w (sep (C []) Pre)) (upd:α→Nat→Array Value→Array Value) (Cm:List α→α→Nat→aG)
 (hassign:∀(l:Nat) (pre:List α) (x:α) (w':World) (B:aG) (K:Act→World→Prop),pre.length<N→Sat W w' (sep (C pre) (sep (Fx x) B))→(∀g w₁,Sat W w₁ (sep (Cm pre x g) B)→K { tmps:=upd x g a.tmps,defers:=[] } w₁) →
  assign.wpIn (F.inRound l) (n-1-1) P (Exit.then K (fun _ _ _=>False)) { tmps:=(ps.zip (encs x)).foldl (fun t (p,v)=>t.setIfInBounds p v) a.tmps,defers:=[] } w')
 (hbody:∀(l:Nat) (pre:List α) (x:α) (g:Nat) (w':World) (B:aG),pre.length<N→Sat W w' (sep (Cm pre x g) B) →
  body.wpIn (F.inRound l) (n-1-1) P (Round W (sep (C (pre++[x])) B)) { tmps:=upd x g a.tmps,defers:=[] } w')
 (hdone:∀(D:Nat) (xs:List α) (w':World),S xs→Sat W w' (sep (blk D (.deferred (some []))) (sep (C xs) Post)) →
  Q .normal { a with defers:={ target:=.collected D,args:=#[] }::a.defers } w'):
 (Code.rangeFunc g ps assign body).wpIn F n P Q a w:=by
 refine JA hro h1 hg hFg eg hps hseq C h0 (fun pre x a₁ E=>∃g,a₁={ tmps:=upd x g a.tmps,defers:=[] }∧E=Cm pre x g) ?_ ?_ hdone
 ·intro l pre x w' B K hl hS hK
  exact hassign l pre x w' B K hl hS fun g w₁ h=>hK _ w₁ _ ⟨g,rfl,rfl⟩ h
 ·rintro l pre x a₁ E w' B hl ⟨g,rfl,rfl⟩ hS
  exact hbody l pre x g w' B hl hS
end
end PA
namespace PA
open Go Go.Proofs.YtgicfogmdfdjmaaGreatDoor
def bY (l:List Int) (i:Nat) (n:Int):Int:=match l[i]? with|some x=>iF x n|none=>0
theorem aW (l:List Int) (i:Nat) (n:Int) (hn:0<n):0≤bY l i n∧bY l i n<n:=by
 unfold bY
 split
 ·exact iW _ _ hn
 ·omega
end PA
namespace Go.Proofs.YtgicfogmdfdjmaaGreatDoor
open Go.RowKit PA
def OH (I:Mem) (va:Value) (l:List Int):Prop:=(∃a c,va=.slice a l.length c)∧(qI.slice 1).rel I [va] l∧∀z∈l,IW z
theorem OH.mono {I J:Mem} {va:Value} {l:List Int} (hl:Mem.le I J) (h:OH I va l):OH J va l:=⟨h.1,(qI.slice 1).mono hl h.2.1,h.2.2⟩
def bg (B:Nat) (va:Value) (pos day:Int) (fv:Value):aG:=blk B (.cells #[va,.int .i64 pos,.int .i64 day,fv] 98 (0,0))
theorem P7 {W w:World} {A:aG} {I:Mem} (va:Value) (l:List Int) (i:Nat) (n:Int) (hn0:0<n) (hn1:n≤1099511627776) (hi:i≤1000000) (hv:OH I va l) (h:Sat W w (sep (kn I) A)):
 Calls Tryz.prog 46 #[va,.int .i64 i,.int .i64 n] w fun e w'=>e=.returned (.int .i64 (bY l i n))∧w=w':=by
 obtain⟨⟨a,c,rfl⟩,hv,hl⟩:=hv
 obtain⟨a',c',e,hsw,hc⟩:=kX.1 hv
 simp only[Value.slice.injEq] at e
 obtain⟨rfl,-,rfl⟩:=e
 obtain⟨r,hr⟩:=aC (bY l i n)
 rw[←hr]
 unfold bY at hr
 have HR:=ah hr
 have hlen:(l.length:Int)≤9223372036854775807:=by
  have h1:=hsw.1;have h2:=hsw.2.1;unfold maxLen at h2;omega
 have hiI:(i:Int)≤1000000:=by omega
 by_cases hlt:i<l.length
 ·have hltz:¬(l.length:Int)≤(i:Int):=by omega
  have SL:(i:Int)<(l.length:Int):=by omega
  obtain⟨b,o,rfl,hcell⟩:=fV hc (fun e=>by have:=congrArg List.length e;simp at this;rw[this] at hlt;simp at hlt)
  obtain⟨x,hx⟩:=aC (l[i])
  have c0:=hcell w h.ext i (PA.iv x) (by rw[List.getElem?_map,List.getElem?_eq_getElem hlt,hx];rfl)
  unfold PA.iv at c0
  have D5:=hl x (by rw[hx];exact List.getElem_mem hlt)
  have HX:Hid (r=iF x n):=ah (by rw[HR.out,List.getElem?_eq_getElem hlt,hx])
  have HA:=ah (kZ x n w D5.1 D5.2 (by omega) (by omega))
  obtain⟨ll,hll⟩:=aC (l.length)
  rw[←hll] at hlen hltz SL ⊢
  clear hv hc hcell hl hr hx hll h hsw D5 HR
  go_enter Tryz.func46,Tryz.ntmps46
  go_wp2_with fail
  refine HA.out.mono ?_
  rintro e w2 ⟨rfl,rfl⟩
  go_wp2
  go_ret
  exact⟨OI HX.out.symm,rfl⟩
 ·have hltz:(l.length:Int)≤(i:Int):=by omega
  have HX:Hid (r=0):=ah (by rw[HR.out,List.getElem?_eq_none (by omega)])
  obtain⟨ll,hll⟩:=aC (l.length)
  rw[←hll] at hlen hltz ⊢
  clear hv hc hl hr hll h hsw HR
  go_enter Tryz.func46,Tryz.ntmps46
  go_wp2
  go_ret
  exact⟨OI HX.out.symm,rfl⟩
theorem aO {W w:World} {A:aG} {I:Mem} {B:Nat} {day:Int} {fv:Value} (va:Value) (l:List Int) (i:Nat) (n:Int) (hn0:0<n) (hn1:n≤1099511627776) (hi:i<1000000) (hv:OH I va l) (h:Sat W w (sep (bg B va i day fv) (sep (kn I) A))):
 Calls Tryz.prog 33 #[.pointer (some ⟨B,0,none⟩),.int .i64 n] w fun e w'=>e=.returned (.int .i64 (bY l i n))∧Sat W w' (sep (bg B va ((i+1:Nat):Int) day fv) (sep (kn I) A)):=by
 unfold bg at h ⊢
 obtain⟨r,hr⟩:=aC (bY l i n)
 rw[←hr]
 have c1:w.cell? ⟨B,1,none⟩=some (.int .i64 i):=h.cell 1
 have f1:w.frozen? ⟨B,1,none⟩=false:=h.aI 1
 obtain⟨w1,hw1⟩:=aC (w.setCell ⟨B,1,none⟩ (.int .i64 ((i+1:Nat):Int)))
 have h1:=h.setCell 1 (.int .i64 ((i+1:Nat):Int))
 rw[←hw1] at h1
 have h1d:Sat W w1.drew (sep (blk B (.cells #[va,.int .i64 ((i+1:Nat):Int),.int .i64 day,fv] 98 (0,0))) (sep (kn I) A)):=h1.drew
 have hx:(i:Int)+1=((i+1:Nat):Int):=by omega
 obtain⟨i1,hi1⟩:=aC (((i+1:Nat):Int))
 rw[←hi1] at hw1 hx h1d ⊢
 have hiI:(i:Int)<1000000:=by omega
 have d0:w1.drew.cell? ⟨B,0,none⟩=some va:=h1d.cell 0
 have d1:w1.drew.cell? ⟨B,1,none⟩=some (.int .i64 i1):=h1d.cell 1
 have hx2:IntKind.i64.wrap (i1-1)=(i:Int):=by
  have:i1-1=(i:Int):=by omega
  rw[this];unfold IntKind.wrap;simp[IntKind.bits,IntKind.signed];omega
 have HP:=ah (P7 va l i n hn0 hn1 (by omega) hv h1d.p1)
 have HD:=ah h1d
 have HW1:=ah hw1
 rw[←hr] at HP
 clear hr h h1 h1d hi1 hw1
 go_enter Tryz.func33,Tryz.ntmps33
 go_upto_region 2 with (fail)
 rw[←HW1.out]
 refine aA rfl (fun _=>True) [(0,.p),(1,.p),(2,.p),(3,.t),(4,.p),(5,.p),(6,.p),(7,.t),(8,.p),(9,.p),(10,.e false),(11,.p)] (by kernel_rfl) ?_
 have hS0:True:=trivial
 (repeat ((first|(refine eF (v:=?_) rfl rfl (fun w'=>?_) ?_;rotate_left;(go_simp;with_reducible rfl))|(refine eG (v:=?_) rfl rfl hS0 (fun w' hS=>?_) ?_;rotate_left;((try dsimp only at hS);go_simp;with_reducible rfl))|(refine eH (v:=?_) rfl rfl ?_ ?_;rotate_left;(go_simp;with_reducible rfl))|(refine bD rfl rfl ?_)|(refine bG rfl rfl hS0 ?_)|(refine bH rfl rfl ?_));simp only[Act.put,lsA,lsB,bC]))
 (refine iQ rfl rfl (fun K hK=>?_);go_simp)
 refine HP.out.mono ?_
 rintro e w2 ⟨rfl,rfl⟩
 (refine hK _ _ (fun h=>by cases h) ?_;clear hK K;(try simp only[Act.put,lsA,lsB,bC]))
 (repeat ((first|(refine eF (v:=?_) rfl rfl (fun w'=>?_) ?_;rotate_left;(go_simp;with_reducible rfl))|(refine eG (v:=?_) rfl rfl hS0 (fun w' hS=>?_) ?_;rotate_left;((try dsimp only at hS);go_simp;with_reducible rfl))|(refine eH (v:=?_) rfl rfl ?_ ?_;rotate_left;(go_simp;with_reducible rfl))|(refine bD rfl rfl ?_)|(refine bG rfl rfl hS0 ?_)|(refine bH rfl rfl ?_));simp only[Act.put,lsA,lsB,bC]))
 refine bM ?_
 go_wp2
 go_ret
 exact⟨rfl,HD.out⟩
end Go.Proofs.YtgicfogmdfdjmaaGreatDoor
namespace PA
open Go RowKit
def encI (n:Int):List UInt8:=Lib.uvarint (Lib.zigzag n)
def encR (b:List UInt8):List UInt8:=Lib.uvarint b.length++b
abbrev RSt:=Except Int (List UInt8)
end PA
namespace PA
open Go
structure Iv where
 ln:Int
 ld:Int
 hn:Int
 hd:Int
 lo:Bool
 ho:Bool
 li:Bool
 hi:Bool
 deriving DecidableEq
inductive Fm where
 | mk (op n:Int) (ins:List Iv) (kids:List Fm)
namespace Fm
def op:Fm→Int|mk o _ _ _=>o
def num:Fm→Int|mk _ n _ _=>n
def ins:Fm→List Iv|mk _ _ i _=>i
def kids:Fm→List Fm|mk _ _ _ k=>k
theorem ind {P:Fm→Prop} (h:∀o n i k,(∀f∈k,P f)→P (mk o n i k)):∀f,P f
 | mk o n i k=>h o n i k fun f _=>ind h f
mutual
def size:Fm→Nat
 | mk _ _ _ k=>sizes k+1
def sizes:List Fm→Nat
 | []=>0
 | f::l=>size f+sizes l
end
mutual
def deep:Fm→Nat
 | mk _ _ _ k=>fG k+1
def fG:List Fm→Nat
 | []=>0
 | f::l=>max (deep f) (fG l)
end
mutual
def nodes:Fm→List Fm
 | mk o n i k=>mk o n i k::xE k
def xE:List Fm→List Fm
 | []=>[]
 | f::l=>nodes f++xE l
end
def formed (sp:List Iv→Bool):Fm→Bool
 | mk o n i k=>
  if (o≠2∧i≠[])∨(o≠2∧o≠1∧n≠0) then false
  else if o=0 then k.isEmpty
  else if o=1 then k.isEmpty&&decide (0≤n)&&decide (n<64)
  else if o=2 then k.isEmpty&&decide (0≤n)&&decide (n<32)&&sp i
  else if o=3∨o=6 then decide (k.length=1)
  else decide (o=4)||decide (o=5)
mutual
def whole (sp:List Iv→Bool):Fm→Bool
 | mk o n i k=>formed sp (mk o n i k)&&dW sp k
def dW (sp:List Iv→Bool):List Fm→Bool
 | []=>true
 | f::l=>whole sp f&&dW sp l
end
mutual
theorem I5 (sp:List Iv→Bool):∀f,whole sp f=(nodes f).all (formed sp)
 | mk o n i k=>by rw[whole,nodes,List.all_cons,vU sp k]
theorem vU (sp:List Iv→Bool):∀l,dW sp l=(xE l).all (formed sp)
 | []=>rfl
 | f::l=>by rw[dW,xE,List.all_append,I5 sp f,vU sp l]
end
mutual
theorem L6:∀f,(nodes f).length=size f
 | mk o n i k=>by rw[nodes,List.length_cons,yP k,size]
theorem yP:∀l,(xE l).length=sizes l
 | []=>rfl
 | f::l=>by rw[xE,List.length_append,L6 f,yP l,sizes]
end
def OD (b:Bool):Int:=if b=true then 1 else 0
def gZ (l:List Int):List UInt8:=Lib.uvarint l.length++l.flatMap encI
def dR (x:Iv):List Int:=[x.ln,x.ld,x.hn,x.hd,OD x.lo,OD x.ho,OD x.li,OD x.hi]
def abD:Fm→List UInt8
 | mk o n i k=>encI o++(encI n++(encI (i.length:Int)++(i.flatMap (fun x=>gZ (dR x))++encI (k.length:Int))))
def enc (f:Fm):List UInt8:=(nodes f).flatMap abD
def valid (sp:List Iv→Bool) (f:Fm):Int:=if 96<size f∨8<deep f then 4 else if whole sp f=true then 0 else 1
end Fm
end PA
namespace PA
open Go Go.RowKit
def Xe:Rep Iv:=⟨fun _ cs x=>cs=[.int .i64 x.ln,.int .i64 x.ld,.int .i64 x.hn,.int .i64 x.hd,.bool x.lo,.bool x.ho,.bool x.li,.bool x.hi],fun _ h=>h⟩
mutual
def Xf (I:Mem):Fm→List Value→Prop
 | .mk o n i k,cs=>∃(a:Option Addr) (c:Nat) (b:Option Addr) (d:Nat),cs=[.int .i64 o,.int .i64 n,.slice a i.length c,.slice b k.length d]∧(Xe.slice 8).rel I [.slice a i.length c] i∧zB b k.length d∧∃css,bP b css.flatten I∧I7 I k css
def I7 (I:Mem):List Fm→List (List Value)→Prop
 | [],css=>css=[]
 | f::l,css=>∃c t,css=c::t∧(Xf I f c∧c.length=4)∧I7 I l t
end
mutual
theorem EJ {I J:Mem} (hl:Mem.le I J):∀(f:Fm) (cs:List Value),Xf I f cs→Xf J f cs
 | .mk _ _ _ k,_,⟨a,c,b,d,e,hi,hw,css,hc,hk⟩=>⟨a,c,b,d,e,(Xe.slice 8).mono hl hi,hw,css,fZ hl hc,Aw hl k css hk⟩
theorem Aw {I J:Mem} (hl:Mem.le I J):∀(l:List Fm) (css:List (List Value)),I7 I l css→I7 J l css
 | [],_,h=>h
 | f::l,_,⟨c,t,e,h1,h2⟩=>⟨c,t,e,⟨EJ hl f c h1.1,h1.2⟩,Aw hl l t h2⟩
end
def rF:Rep Fm:=⟨fun I cs f=>Xf I f cs,fun hl h=>EJ hl _ _ h⟩
theorem sN {I:Mem}:∀{l:List Fm} {css:List (List Value)},I7 I l css↔dX (fun c x=>rF.rel I c x∧c.length=4) css l
 | [],[]=>⟨fun _=>trivial,fun _=>rfl⟩
 | [],_::_=>⟨fun h=>(by cases h),fun h=>False.elim h⟩
 | f::l,[]=>⟨fun ⟨_,_,h,_⟩=>(by cases h),fun h=>False.elim h⟩
 | f::l,c::t=>by
  constructor
  ·rintro⟨c',t',e,h1,h2⟩
   cases e
   exact⟨h1,sN.1 h2⟩
  ·rintro⟨h1,h2⟩
   exact⟨c,t,rfl,h1,sN.2 h2⟩
theorem ig {I:Mem} {cs:List Value} {o n:Int} {i:List Iv} {k:List Fm}:rF.rel I cs (.mk o n i k)↔∃(a:Option Addr) (c:Nat) (b:Option Addr) (d:Nat),cs=[.int .i64 o,.int .i64 n,.slice a i.length c,.slice b k.length d]∧(Xe.slice 8).rel I [.slice a i.length c] i∧(rF.slice 4).rel I [.slice b k.length d] k:=by
 constructor
 ·rintro⟨a,c,b,d,e,hi,hw,css,hc,hk⟩
  exact⟨a,c,b,d,e,hi,b,d,css.flatten,rfl,hw,hc,css,rfl,sN.1 hk⟩
 ·rintro⟨a,c,b,d,e,hi,b',d',cells,e2,hw,hc,css,rfl,hk⟩
  cases e2
  exact⟨a,c,b,d,e,hi,hw,css,hc,sN.2 hk⟩
end PA
namespace PA
open Go Go.RowKit
structure Cl where
 refs:List Int
 body:Fm
structure Ea where
 file:Int
 day:Int
structure Pa where
 k:Int
 d:Int
 n:Int
 f:Int
 o:Int
 p:Int
 q:Int
 u:Int
 m:Int
 sn:Int
 sd:Int
 td:List Fm
 tc:List Cl
 cl:List Cl
 ea:List Ea
 fx:Fm
def Fm.zero:Fm:=.mk 0 0 [] []
def Pa.zero:Pa:=⟨0,0,0,0,0,0,0,0,0,0,0,[],[],[],[],Fm.zero⟩
def SK:Rep Ea:=⟨fun _ cs x=>cs=[.int .i64 x.file,.int .i64 x.day],fun _ h=>h⟩
def oz:Rep Cl:=⟨fun I cs x=>∃(a:Option Addr) (c:Nat) (b:List Value),cs=.slice a x.refs.length c::b∧(qI.slice 1).rel I [.slice a x.refs.length c] x.refs∧rF.rel I b x.body,
 fun hl ⟨a,c,b,e,h1,h2⟩=>⟨a,c,b,e,(qI.slice 1).mono hl h1,rF.mono hl h2⟩⟩
structure oM (I:Mem) (z:Ac) (x:Pa):Prop where
 k:z.k=x.k
 d:z.d=x.d
 n:z.n=x.n
 f:z.f=x.f
 o:z.o=x.o
 p:z.p=x.p
 q:z.q=x.q
 u:z.u=x.u
 m:z.m=x.m
 sn:z.sn=x.sn
 sd:z.sd=x.sd
 td:(rF.slice 4).rel I [z.td.v] x.td
 tc:(oz.slice 5).rel I [z.tc.v] x.tc
 cl:(oz.slice 5).rel I [z.cl.v] x.cl
 ea:(SK.slice 2).rel I [z.ea.v] x.ea
 fx:rF.rel I [.int .i64 z.fo,.int .i64 z.fn,z.fi.v,z.fk.v] x.fx
theorem oM.mono {I J:Mem} {z:Ac} {x:Pa} (hl:Mem.le I J) (h:oM I z x):oM J z x:=
 ⟨h.k,h.d,h.n,h.f,h.o,h.p,h.q,h.u,h.m,h.sn,h.sd,(rF.slice 4).mono hl h.td,(oz.slice 5).mono hl h.tc,(oz.slice 5).mono hl h.cl,(SK.slice 2).mono hl h.ea,rF.mono hl h.fx⟩
theorem aH {α:Type} (R:Rep α) (k:Nat) (I:Mem):(R.slice k).rel I [.slice none 0 0] []:=
 ⟨none,0,[],rfl,⟨Nat.le_refl _,Nat.zero_le _,fun _=>rfl⟩,.inl rfl,[],rfl,trivial⟩
theorem dJ (I:Mem):rF.rel I [.int .i64 0,.int .i64 0,.slice none 0 0,.slice none 0 0] Fm.zero:=
 ig.2 ⟨none,0,none,0,rfl,aH _ _ _,aH _ _ _⟩
theorem oM.zero (I:Mem):oM I Ac.zero Pa.zero:=
 ⟨rfl,rfl,rfl,rfl,rfl,rfl,rfl,rfl,rfl,rfl,rfl,aH _ _ _,aH _ _ _,aH _ _ _,aH _ _ _,dJ I⟩
def Gl (x:Iv):Prop:=0≤x.ln∧x.ln≤4∧x.ld=1∧x.li=false∧((x.hi=true∧x.hn=0∧x.hd=0∧x.ho=false)∨(x.hi=false∧x.hd=1∧x.ln<x.hn∧x.hn≤8))
def oN (f:Fm):Prop:=∃n:Int,0≤n∧n<6∧f=.mk 1 n [] []
def Az (f:Fm):Prop:=∃(n:Int) (x:Iv),0≤n∧n<2∧Gl x∧f=.mk 2 n [x] []
inductive dh:Fm→Prop
 | c {f}:oN f→dh f
 | v {f}:Az f→dh f
 | OE {f g}:oN f→Az g→dh (.mk 4 0 [] [f,g])
 | Xg {f g}:oN f→Az g→dh (.mk 5 0 [] [f,g])
 | ZO {f g}:oN f→oN g→dh (.mk 5 0 [] [f,g])
 | ZP {f g}:oN f→oN g→dh (.mk 4 0 [] [f,.mk 6 0 [] [g]])
 | part {f}:oN f→dh (.mk 3 0 [] [f])
 | ZQ {f g}:oN f→Az g→dh (.mk 4 0 [] [f,.mk 3 0 [] [g]])
def kY (i:Nat) (r:List Int):Prop:=r=[]∨(∃j:Nat,j<i∧r=[(j:Int)])∨(i=2∧r=[0,1])
def oC (l:List Cl):Prop:=1≤l.length∧l.length≤3∧∀(i:Nat) (h:i<l.length),dh l[i].body∧kY i l[i].refs
def AB (td:List Fm) (tc:List Cl):Prop:=1≤td.length∧td.length≤2∧(∀f∈td,dh f)∧oC tc
def eP (N:Nat) (z:Int):Prop:=∃j:Nat,j<N∧z=5*(j:Int)
def L8 (N:Nat) (l:List Ea):Prop:=l.length≤2∧(∀e∈l,eP N e.file∧35600≤e.day∧e.day≤38001)∧l.Pairwise fun a b=>a.file≠b.file
def AO (N:Nat) (y:Pa):Prop:=
 ∃(o p q:Int) (td:List Fm) (tc:List Cl) (ea:List Ea),y={ Pa.zero with f:=5*(N:Int),o:=o,p:=p,q:=q,td:=td,tc:=tc,ea:=ea } ∧
  (o=0∨o=1)∧(p=1∨p=2)∧(q=-1∨eP N q)∧AB td tc∧L8 N ea
def Gm (n d:Int):Prop:=(n=1∧d=1)∨(n=1∧d=2)∨(n=1∧d=3)∨(n=2∧d=3)
inductive Other (N:Nat):Pa→Prop
 | plain {k f:Int}:(k=1∨k=2∨k=10∨k=11)→eP N f→Other N { Pa.zero with k:=k,f:=f }
 | list {k f:Int} {cl:List Cl}:(k=3∨k=15)→eP N f→oC cl→Other N { Pa.zero with k:=k,f:=f,cl:=cl }
 | pay {f p q u m:Int}:eP N f→(p=1∨p=2)→(q=0∨q=1)→((0≤u∧u≤5)∨(9≤u∧u≤11))→1≤m→m≤1000→Other N { Pa.zero with k:=4,f:=f,p:=p,q:=q,u:=u,m:=m }
 | small {p u:Int}:(p=1∨p=2)→(u=0∨u=1)→Other N { Pa.zero with k:=5,p:=p,u:=u }
 | order {k f u:Int}:(k=6∨k=7∨k=18∨k=9)→eP N f→0≤u→u<60→(k≠9→u≤2)→Other N { Pa.zero with k:=k,f:=f,u:=u }
 | extend {f u m:Int}:eP N f→0≤u→u≤2→1≤m→m≤4→Other N { Pa.zero with k:=8,f:=f,u:=u,m:=m }
 | L9 {k f p:Int}:(k=12∨k=14)→eP N f→1≤p→p≤4→Other N { Pa.zero with k:=k,f:=f,p:=p }
 | decide {f q u:Int} {cl:List Cl}:eP N f→(q=0∨q=1)→((u=0∨u=1)∧cl=[]∨u=2∧oC cl)→Other N { Pa.zero with k:=13,f:=f,q:=q,u:=u,cl:=cl }
 | transfer {f p q sn sd:Int}:eP N f→1≤p→p≤3→p<q→q≤p+2→Gm sn sd→Other N { Pa.zero with k:=16,f:=f,p:=p,q:=q,sn:=sn,sd:=sd }
 | OG {f p q u:Int}:eP N f→1≤p→p≤3→p<q→q≤p+2→0≤u→u<2000→Other N { Pa.zero with k:=17,f:=f,p:=p,q:=q,u:=u }
 | art {g:Fm}:dh g→Other N { Pa.zero with k:=19,fx:=g }
 | closure {o u:Int}:(o=0∨o=1)→0≤u→u<20→Other N { Pa.zero with k:=20,o:=o,u:=u }
 | rule {o u m:Int}:(o=0∨o=1)→0≤u→u≤18→1≤m→m≤50→Other N { Pa.zero with k:=21,o:=o,u:=u,m:=m }
def bK (y:Pa) (d n:Int):Pa:={ y with d:=d,n:=n,u:=if y.k=9∨y.k=17∨y.k=20 then d+y.u else y.u }
def EK (N:Nat) (x:Pa):Prop:=∃y d n,(AO N y∨Other N y)∧35600≤d∧d≤38000∧x=bK y d n
def qW (l:List Pa):Nat:=(l.filter fun x=>x.k==0).length
def Made (l:List Pa):Prop:=∀(i:Nat) (h:i<l.length),EK (qW (l.take i)) l[i]∧l[i].n=4*(i:Int)∧(i=0→l[i].k=0)
end PA
namespace Go.Proofs.YtgicfogmdfdjmaaGreatDoor
open Go.RowKit PA
theorem litI {W w:World} {A:aG} {I:Mem} (h:Sat W w (sep (kn I) A)) (ns:List Int) (t:TypeId) (hb:ns.length≤maxLen):
 ∃J,Mem.le I J∧(qI.slice 1).rel J [.slice (some ⟨w.heap.size,0,none⟩) ns.length ns.length] ns∧Sat W (w.alloc (.cells (ns.map iv).toArray t)) (sep (kn J) A):=by
 have h1:=(h.alloc (.cells (ns.map iv).toArray t)).settle
 obtain⟨J,hle,hp,h2⟩:=(show Sat W _ (sep (Y0 w.heap.size (.cells (ns.map iv).toArray t)) (sep (kn I) A)) from h1).learn
 refine⟨J,hle,kX.2 ⟨_,_,rfl,⟨Nat.le_refl _,hb,fun h=>by cases h⟩,.inr ⟨w.heap.size,0,_,t,(0,0),rfl,hp,fun i u hu=>by simpa using hu⟩⟩,h2⟩
theorem nilI (I:Mem):(qI.slice 1).rel I [.slice none 0 0] []:=kX.2 ⟨none,0,rfl,⟨Nat.le_refl _,Nat.zero_le _,fun _=>rfl⟩,.inl rfl⟩
end Go.Proofs.YtgicfogmdfdjmaaGreatDoor
namespace PA
open Go Go.RowKit
section
variable {P:Program} {ops:Array Oper} {Q:Exit→Act→World→Prop} {S:World→Prop} {W:World}
theorem OT {o:Oper} {a:Act} {Pre:aG} {v1:Value} {Post:aG} (hg:Region.wanted o (yielded ops a.tmps)=true)
 (hr:∀(w:World) (A:aG),Sat W w (sep Pre A)→∃w',(execOp a.eval o).run P w=.ok (.value v1) w'∧Sat W w' (sep Post A)):iq P ops W o a Pre (fun v=>sep (fact (v=v1)) Post):=
 ⟨hg,fun w A h=>.inl (by
  obtain⟨w',h1,h2⟩:=hr w A h
  exact⟨v1,w',h1,by rw[aj];exact Sat.fact.2 ⟨rfl,h2⟩⟩)⟩
def WA (Pre Mid Post:aG) (v1 u1 v2:Value):List Value→aG
 | []=>Pre
 | [v]=>sep (fact (v=v1)) Mid
 | [v,u]=>sep (fact (v=v1∧u=u1)) Mid
 | v::u::x::r=>sep (fact (v=v1∧u=u1∧x=v2∧r=[])) Post
theorem TU {Pre Mid Post:aG} {v1 u1 v2:Value} {a0:Act} {i k j:Nat} {oi oj:Oper} {di:Option Tmp} (hdi:aZ ops i=di) (hoi:ops[i]?=some oi) (hsi:∀cs b,oi.op≠.select cs b) (hoj:ops[j]?=some oj) (hsj:∀cs b,oj.op≠.select cs b)
 (hb:((Region.before ops).getD j 0).testBit i=true) (h1:iq P ops W oi a0 Pre (fun v=>sep (fact (v=v1)) Mid)) (hpl:mO ops k=true) (hF:vW P ops (a0.put di v1) [k] [u1])
 (h2:iq P ops W oj ((a0.put di v1).put (aZ ops k) u1) Mid (fun v=>sep (fact (v=v2)) Post))
 (hw2:∀v u,Region.wanted oj (yielded ops ((a0.put di v).put (aZ ops k) u).tmps)=true):
 uj P ops W a0 (WA Pre Mid Post v1 u1 v2) [] [(i,[k]),(j,[])]:=by
 subst hdi
 refine⟨⟨oi,hoi,hsi,h1⟩,fun y hy=>?_,fun k' hk'=>?_,fun v w B h=>?_,fun v us hus=>?_⟩
 ·rw[List.mem_singleton.1 hy];exact hb
 ·rw[List.mem_singleton.1 hk'];exact hpl
 ·have h':Sat W w (sep (sep (fact (v=v1)) Mid) B):=h
  rw[aj] at h'
  obtain⟨rfl,h3⟩:=Sat.fact.1 h'
  refine⟨[u1],hF,?_⟩
  show Sat W w (sep (sep (fact (v=v∧u1=u1)) Mid) B)
  rw[aj]
  exact Sat.fact.2 ⟨⟨rfl,rfl⟩,h3⟩
 ·match us,hus with
  | [u],_=>
   refine⟨⟨oj,hoj,hsj,hw2 v u,fun w A hS=>?_⟩,fun y hy=>(by cases hy),fun k' hk'=>(by cases hk'),fun v' w B h=>⟨[],trivial,h⟩,fun _ _ _=>trivial⟩
   have hS':Sat W w (sep (sep (fact (v=v1∧u=u1)) Mid) A):=hS
   rw[aj] at hS'
   obtain⟨⟨rfl,rfl⟩,hS2⟩:=Sat.fact.1 hS'
   have conv:∀(v':Value) (w':World),Sat W w' (sep (sep (fact (v'=v2)) Post) A)→Sat W w' (sep (WA Pre Mid Post v u v2 ([v,u]++[v'])) A):=fun v' w' h=>by
    show Sat W w' (sep (sep (fact (v=v∧u=u∧v'=v2∧([]:List Value)=[])) Post) A)
    rw[aj] at h ⊢
    obtain⟨h1,h2⟩:=Sat.fact.1 h
    exact Sat.fact.2 ⟨⟨rfl,rfl,h1,rfl⟩,h2⟩
   rcases h2.2 w A hS2 with ⟨v',w',h3,h4⟩|⟨f,args,w1,h3,h4⟩
   ·exact .inl ⟨v',w',h3,conv v' w' h4⟩
   ·refine .inr ⟨f,args,w1,h3,h4.mono ?_⟩
    rintro e w' ⟨v',rfl,h5⟩
    exact⟨v',rfl,conv v' w' h5⟩
theorem Jd {Pre Mid Post:aG} {v1 u1 v2:Value} {A:aG} {w:World} {i k j:Nat} {dn:List (Nat×Value)} (hdn:dn.map (·.1)=[i,k,j])
 (h:Sat W w (sep (WA Pre Mid Post v1 u1 v2 (dn.map (·.2))) A)):dn=[(i,v1),(k,u1),(j,v2)]∧Sat W w (sep Post A):=by
 match dn,hdn with
 | [(i',u),(k',x),(j',y)],hdn=>
  simp only[List.map_cons,List.map_nil,List.cons.injEq,and_true] at hdn
  obtain⟨rfl,rfl,rfl⟩:=hdn
  have h':Sat W w (sep (sep (fact (u=v1∧x=u1∧y=v2∧([]:List Value)=[])) Post) A):=h
  rw[aj] at h'
  obtain⟨⟨rfl,rfl,rfl,-⟩,h3⟩:=Sat.fact.1 h'
  exact⟨rfl,h3⟩
end
end PA
namespace PA
open Go Go.RowKit
section
variable {P:Program} {ops:Array Oper} {Q:Exit→Act→World→Prop} {S:World→Prop} {W:World}
theorem Gw {s:qN}:∀{l:List qN},s∈l→∀A,∃X,xM l A=sep s.now X
 | [],h,_=>by cases h
 | u::l,h,A=>by
  rcases List.mem_cons.1 h with rfl|h
  ·exact⟨_,by rw[jV,nP]⟩
  ·exact Gw h (sep u.now A)
theorem Qh {ts:List WE} {oK:List qN} (h:qo ts oK) {t:WE} (ht:t∈ts):∃s∈oK,s.A=t.A:=by
 unfold qo at h
 have:(nums t.ids,t.A)∈oK.map (fun s=>(s.dn.map (·.1)++nums s.td,s.A)):=by rw[h];exact List.mem_map.2 ⟨t,ht,rfl⟩
 obtain⟨s,hs,e⟩:=List.mem_map.1 this
 exact⟨s,hs,(Prod.mk.inj e).2⟩
theorem MV {a0:Act} {A:aG} {b:Bool} {K:Act→World→Prop} (ts:List WE) (hS:b=true→∃t∈ts,∀us w X,Sat W w (sep (t.A us) X)→S w) (hfin:Qi ops W a0 K ts [] A):
 ∀(n:Nat) (oK:List qN) (E:List (Nat×List Nat)) (w:World),E.length=n→E.Perm (oK.flatMap (·.td))→qo ts oK→(∀s∈oK,uj P ops W a0 s.A s.dn s.td)→(oK.Pairwise fun s t=>MW ops s.all t.all)→Sat W w (xM oK A) →
  uT P ops Q S b n E K (puts ops (oK.flatMap (·.dn)) a0) w:=by
 intro n
 induction n with
 | zero=>
  intro oK E w hn hp hL _ _ hw
  have hE:=List.eq_nil_of_length_eq_zero hn
  subst hE
  have:=AZ oK ts [] A hL (List.nil_perm.1 hp) hfin w hw
  rw[List.nil_append] at this
  exact this
 | succ n ih=>
  intro oK E w hn hp hL hg hap hw i hi hr
  obtain⟨s,hs,his⟩:=List.mem_flatMap.1 (hp.mem_iff.1 hi)
  obtain⟨S1,S2,rfl⟩:=List.append_of_mem hs
  obtain⟨dn,td,AT⟩:=s
  cases td with
  | nil=>simp at his
  | cons k td=>
   have hgs:=hg _ hs
   obtain⟨⟨o,ho,hsel,hd⟩,hch,hplain,htl,hnext⟩:=hgs
   have hik:i=k:=by
    rcases List.mem_cons.1 his with e|hm
    ·exact e
    ·exfalso
     have h1:=hch i hm
     have h2:k∈E:=hp.mem_iff.2 (List.mem_flatMap.2 ⟨_,hs,by simp⟩)
     have h3:=List.all_eq_true.1 hr k h2
     rw[h1] at h3
     cases h3
   subst hik
   have hall:∀j∈dn.map (·.1)++i.1::i.2,j∈qN.all ⟨dn,i::td,AT⟩:=fun j hj=>by
    unfold qN.all nums
    rw[List.flatMap_cons]
    rcases List.mem_append.1 hj with hj|hj
    ·exact List.mem_append_left _ hj
    ·exact List.mem_append_right _ (List.mem_append_left _ hj)
   have hpw:=List.pairwise_append.1 hap
   have hpc:=List.pairwise_cons.1 hpw.2.1
   have hl1:∀x∈S1.flatMap (·.dn),∀j∈dn.map (·.1)++i.1::i.2,apartB ops x.1 j=true:=fun x hx j hj=>by
    obtain⟨s1,hs1,hx1⟩:=List.mem_flatMap.1 hx
    exact hpw.2.2 s1 hs1 ⟨dn,i::td,AT⟩ (by simp) x.1 (List.mem_append_left _ (List.mem_map.2 ⟨x,hx1,rfl⟩)) j (hall j hj)
   have hl2:∀x∈S2.flatMap (·.dn),∀j∈dn.map (·.1)++i.1::i.2,apartB ops j x.1=true:=fun x hx j hj=>by
    obtain⟨s1,hs1,hx1⟩:=List.mem_flatMap.1 hx
    exact hpc.1 s1 hs1 j (hall j hj) x.1 (List.mem_append_left _ (List.mem_map.2 ⟨x,hx1,rfl⟩))
   have Jr:∀TM:List (Nat×Value),(∀y∈TM,y.1∈dn.map (·.1)++i.1::i.2)→puts ops ((S1++⟨TM,td,AT⟩::S2).flatMap (·.dn)) a0=puts ops (S2.flatMap (·.dn)) (puts ops (S1.flatMap (·.dn)) (puts ops TM a0)):=fun TM aas=>by
    rw[List.flatMap_append,List.flatMap_cons,dK,dK]
    congr 1
    exact uU TM _ (fun x hx y hy=>hl1 x hx y.1 (aas y hy)) a0
   have Js:puts ops ((S1++⟨dn,i::td,AT⟩::S2).flatMap (·.dn)) a0=puts ops (S2.flatMap (·.dn)) (puts ops (S1.flatMap (·.dn)) (puts ops dn a0)):=by
    rw[←Jr dn (fun y hy=>List.mem_append_left _ (List.mem_map.2 ⟨y,hy,rfl⟩)),List.flatMap_append,List.flatMap_append,List.flatMap_cons,List.flatMap_cons]
   have hboth:∀x∈S1.flatMap (·.dn)++S2.flatMap (·.dn),∀j∈dn.map (·.1)++i.1::i.2,apartB ops x.1 j=true∨apartB ops j x.1=true:=fun x hx j hj=>by
    rcases List.mem_append.1 hx with hx|hx
    ·exact .inl (hl1 x hx j hj)
    ·exact .inr (hl2 x hx j hj)
   have hd':iq P ops W o (puts ops ((S1++⟨dn,i::td,AT⟩::S2).flatMap (·.dn)) a0) (AT (dn.map (·.2))) (fun v=>AT (dn.map (·.2)++[v])):=by
    rw[Js,←dK]
    exact iq.puts ho hsel _ (fun x hx=>hboth x hx i.1 (by simp)) hd
   have hw2:Sat W w (sep (AT (dn.map (·.2))) (xM S2 (xM S1 A))):=by
    rw[mJ,jV,nP] at hw
    exact hw
   refine hd'.wpOp ho hw2 (fun v w' hv=>?_)
   refine⟨fun hb=>?_,?_⟩
   ·obtain⟨t,ht,hSt⟩:=hS hb
    obtain⟨s,hs,hsA⟩:=Qh hL ht
    rcases List.mem_append.1 hs with h|h
    ·obtain⟨X,hX⟩:=Gw h A
     rw[hX,nP] at hv
     have hv3:Sat W w' (sep (s.A (s.dn.map (·.2))) (sep (AT (dn.map (·.2)++[v])) (xM S2 X))):=hv.p1
     rw[hsA] at hv3
     exact hSt _ _ _ hv3
    ·rcases List.mem_cons.1 h with h|h
     ·have e:AT=t.A:=by rw[←hsA,h]
      rw[e] at hv
      exact hSt _ _ _ hv
     ·obtain⟨X,hX⟩:=Gw h (xM S1 A)
      rw[hX] at hv
      have hv3:Sat W w' (sep (s.A (s.dn.map (·.2))) (sep (AT (dn.map (·.2)++[v])) X)):=hv.p1
      rw[hsA] at hv3
      exact hSt _ _ _ hv3
   ·obtain⟨us,hpu,hv2⟩:=htl v w' _ hv
    have Gx:=A8 hpu
    have hdo:aZ ops i.1=o.dst:=by unfold aZ;rw[ho];rfl
    have e1:(puts ops ((S1++⟨dn,i::td,AT⟩::S2).flatMap (·.dn)) a0).put o.dst v=puts ops (S1.flatMap (·.dn)++S2.flatMap (·.dn)) (puts ops (dn++[(i.1,v)]) a0):=by
     rw[Js,←hdo,←dK,dK dn]
     show _=puts ops _ ((puts ops dn a0).put (aZ ops i.1) v)
     exact (mM v _ (fun x hx=>hboth x hx i.1 (by simp)) _).symm
    rw[e1]
    refine rG i.2 us _ w' hplain (xO _ hplain (fun x hx j hj=>hboth x hx j (by simp[hj])) hpu) ?_
    have e2:puts ops (i.2.zip us) (puts ops (S1.flatMap (·.dn)++S2.flatMap (·.dn)) (puts ops (dn++[(i.1,v)]) a0))=puts ops ((S1++⟨dn++(i.1,v)::i.2.zip us,td,AT⟩::S2).flatMap (·.dn)) a0:=by
     rw[Jr (dn++(i.1,v)::i.2.zip us) (fun y hy=>?_)]
     ·rw[←dK (S1.flatMap (·.dn))]
      have e3:dn++(i.1,v)::i.2.zip us=(dn++[(i.1,v)])++i.2.zip us:=by simp
      rw[e3,dK (dn++[(i.1,v)])]
      have key:∀(z:List (Nat×Value)),(∀y∈z,y.1∈i.2)→∀(L:List (Nat×Value)),(∀x∈L,∀j∈dn.map (·.1)++i.1::i.2,apartB ops x.1 j=true∨apartB ops j x.1=true)→∀a:Act,puts ops z (puts ops L a)=puts ops L (puts ops z a):=by
       intro z
       induction z with
       | nil=>intro _ L _ a;rfl
       | cons y z ihz=>
        intro hz L hL a
        show puts ops z ((puts ops L a).put (aZ ops y.1) y.2)=puts ops L (puts ops z (a.put (aZ ops y.1) y.2))
        rw[←mM y.2 L (fun x hx=>hL x hx y.1 (List.mem_append_right _ (List.mem_cons_of_mem _ (hz y (by simp))))),ihz (fun u hu=>hz u (by simp[hu])) L hL]
      exact key _ (fun y hy=>by obtain⟨y1,y2⟩:=y;exact (List.of_mem_zip hy).1) _ hboth _
     ·rcases List.mem_append.1 hy with hy|hy
      ·exact List.mem_append_left _ (List.mem_map.2 ⟨y,hy,rfl⟩)
      ·rcases List.mem_cons.1 hy with rfl|hy
       ·simp
       ·obtain⟨y1,y2⟩:=y
        exact List.mem_append_right _ (List.mem_cons_of_mem _ (List.of_mem_zip hy).1)
    rw[e2]
    have hzm:((i.1,v)::i.2.zip us).map (·.1)=i.1::i.2:=by rw[List.map_cons,List.map_fst_zip (by omega)]
    have hzs:((i.1,v)::i.2.zip us).map (·.2)=v::us:=by rw[List.map_cons,List.map_snd_zip (by omega)]
    refine ih _ (E.erase i) w' ?_ ?_ ?_ ?_ ?_ ?_
    ·rw[List.length_erase_of_mem hi,hn];rfl
    ·have h1:((S1++⟨dn,i::td,AT⟩::S2).flatMap (·.td)).Perm (i::(S1++⟨dn++(i.1,v)::i.2.zip us,td,AT⟩::S2).flatMap (·.td)):=by
      simp only[List.flatMap_append,List.flatMap_cons]
      exact List.perm_middle
     have h2:=(hp.trans h1).erase i
     rw[List.erase_cons_head] at h2
     exact h2
    ·unfold qo at *
     rw[←hL]
     simp only[lS,List.map_cons]
     rw[show i.1::(i.2.zip us).map (·.1)=i.1::i.2 by rw[←hzm];rfl]
     congr 2
     simp[nums]
    ·intro s hs'
     rcases List.mem_append.1 hs' with h|h
     ·exact hg s (List.mem_append_left _ h)
     ·rcases List.mem_cons.1 h with rfl|h
      ·exact hnext v us Gx
      ·exact hg s (by simp[h])
    ·have hsame:qN.all ⟨dn++(i.1,v)::i.2.zip us,td,AT⟩=qN.all ⟨dn,i::td,AT⟩:=by
      unfold qN.all nums
      rw[lS,hzm,List.flatMap_cons,List.append_assoc]
     refine List.pairwise_append.2 ⟨hpw.1,List.pairwise_cons.2 ⟨fun y hy=>?_,hpc.2⟩,fun x hx y hy=>?_⟩
     ·rw[hsame];exact hpc.1 y hy
     ·rcases List.mem_cons.1 hy with rfl|hy
      ·rw[hsame];exact hpw.2.2 x hx _ (List.mem_cons_self)
      ·exact hpw.2.2 x hx y (by simp[hy])
    ·rw[mJ,jV,nP]
     show Sat W w' (sep (AT ((dn++(i.1,v)::i.2.zip us).map (·.2))) (xM S2 (xM S1 A)))
     rw[lS,hzs]
     exact hv2
theorem pK {a:Act} {w:World} {A:aG} {b:Bool} {l:List iC} {K:Act→World→Prop} (ts:List WE) (hS:b=true→∃t∈ts,∀us w X,Sat W w (sep (t.A us) X)→S w)
 (hap:wo ops (ts.map (fun t=>nums t.ids))=true) (hg:∀t∈ts,uj P ops W a t.A [] t.ids) (hw:Sat W w (ts.foldl (fun B t=>sep (t.A []) B) A)) (hfin:Qi ops W a (jT P ops Q S l K) ts [] A):
 jT P ops Q S (.grp b (ts.flatMap (·.ids))::l) K a w:=by
 have aat:xM (ts.map fun t=>(⟨[],t.ids,t.A⟩:qN)) A=ts.foldl (fun B t=>sep (t.A []) B) A:=by
  rw[xM,List.foldl_map];rfl
 have h:=MV (P:=P) (Q:=Q) (S:=S) (b:=b) ts hS hfin _ (ts.map fun t=>(⟨[],t.ids,t.A⟩:qN)) (ts.flatMap (·.ids)) w rfl ?_ ?_ ?_ (uV ts hap) (by rw[aat];exact hw)
 ·have e:(ts.map fun t=>(⟨[],t.ids,t.A⟩:qN)).flatMap (·.dn)=[]:=by
   induction ts with
   | nil=>rfl
   | cons t ts ih=>simp
  rw[e] at h
  exact h
 ·rw[List.flatMap_map]
 ·unfold qo;simp
 ·intro s hs
  obtain⟨t,ht,rfl⟩:=List.mem_map.1 hs
  exact hg t ht
end
end PA
namespace PA
open Go Go.RowKit
def TN (ops:Array Oper) (bf:Array Nat) (b:Bool) (E:List (Nat×List Nat)):Bool:=
 E.all (fun x=>x.2.all (fun j=>(bf.getD j 0).testBit x.1))&&E.all (fun x=>yS ops bf (x.2.map fun j=>(j,(.inr none:Kd)))) &&
 E.all (fun x=>E.all fun y=>x==y||(bf.getD x.1 0).testBit y.1||x.2.all fun u=>(nK b y).all fun v=>dH ops bf (u,.inr none) v)
section
variable {P:Program} {ops:Array Oper} {Q:Exit→Act→World→Prop} {S:World→Prop}
structure Qj (ops:Array Oper) (bf:Array Nat) (b:Bool) (E:List (Nat×List Nat)):Prop where
 own:∀x∈E,∀j∈x.2,(bf.getD j 0).testBit x.1=true
 seq:∀x∈E,x.2.Pairwise fun u v=>dH ops bf (u,.inr none) (v,.inr none)=true
 other:∀x∈E,∀y∈E,x≠y→(bf.getD x.1 0).testBit y.1=false→∀u∈x.2,∀v∈nK b y,dH ops bf (u,.inr none) v=true
theorem TP {bf:Array Nat} {b:Bool} {E:List (Nat×List Nat)} (h:TN ops bf b E=true):Qj ops bf b E:=by
 simp only[TN,Bool.and_eq_true,List.all_eq_true,Bool.or_eq_true,beq_iff_eq] at h
 obtain⟨⟨h1,h2⟩,h3⟩:=h
 refine⟨h1,fun x hx=>Ba _ (h2 x hx),fun x hx y hy hne hnb u hu v hv=>?_⟩
 rcases h3 x hx y hy with (e|e)|h
 ·exact absurd e hne
 ·rw[hnb] at e;cases e
 ·exact h u hu v hv
theorem Qj.erase {bf:Array Nat} {b:Bool} {E:List (Nat×List Nat)} (h:Qj ops bf b E) (x:Nat×List Nat):Qj ops bf b (E.erase x):=
 ⟨fun y hy=>h.own y (List.mem_of_mem_erase hy),fun y hy=>h.seq y (List.mem_of_mem_erase hy),fun y hy z hz=>h.other y (List.mem_of_mem_erase hy) z (List.mem_of_mem_erase hz)⟩
structure Zo (ops:Array Oper) (bf:Array Nat) (listed:Array Bool) (l:List iC):Prop where
 size:listed.size=ops.size
 mem:∀i,i∈(bV l).map (·.1)↔i<ops.size∧listed.getD i true=false
 nodup:((bV l).map (·.1)).Nodup
 pair:l.Pairwise fun x y=>∀u∈x.fl,∀v∈y.fl,dH ops bf u v=true
 dep:(bV l).Pairwise fun x y=>jQ ops x.1 y.1=false
 self:∀x∈bV l,jQ ops x.1 x.1=false
 grp:∀b E,iC.grp b E∈l→Qj ops bf b E
 closed:∀d r,r<ops.size→listed.getD d false=true→(bf.getD d 0).testBit r=true→listed.getD r false=true
theorem Qk (hsel:∀(j:Nat) (o:Oper) cs b,ops[j]?=some o→o.op≠.select cs b) (hQ:∀c a d v w,Q (.panic c) (a.put d v) w→Q (.panic c) a w)
 (hbf:jU ops (Region.before ops)=true) (hon:∀(j:Nat) (o:Oper),ops[j]?=some o→∀e∈o.after,Region.binds .any e=true→e.on<ops.size):
 ∀(n:Nat) (l:List iC) (listed:Array Bool),(bV l).length=n→Zo ops (Region.before ops) listed l→∀(a:Act) (w:World),jT P ops Q S l (Q .normal) a w→wpAny P .any ops Q n listed a w:=by
 obtain⟨bf,hbe⟩:=aC (Region.before ops)
 have Jq:∀(listed:Array Bool) (i:Nat),listed.size=ops.size→i<ops.size→(listed.getD i false=true↔¬listed.getD i true=false):=fun listed i hs hi=>by
  simp[Array.getD,hs,hi]
 have nil:∀(listed:Array Bool) (l:List iC),bV l=[]→Zo ops (Region.before ops) listed l→Region.ready .any ops listed=[]:=fun listed l hl hI=>by
  simp only[Region.ready,List.filter_eq_nil_iff,List.mem_range]
  intro i hi
  have h':¬listed.getD i true=false:=fun hh=>by have:=(hI.mem i).2 ⟨hi,hh⟩;rw[hl] at this;simp at this
  have h'':listed.getD i true=true:=by simpa using h'
  simp[h'']
 intro n
 induction n with
 | zero=>
  intro l listed hn hI a w h
  have hl:=List.eq_nil_of_length_eq_zero hn
  exact⟨nil _ l hl hI,xP l hl a w h⟩
 | succ n ih=>
  intro l listed hn hI a w h
  refine⟨fun hr=>?_,fun j hj=>?_⟩
  ·exfalso
   cases hfl:bV l with
   | nil=>rw[hfl] at hn;simp at hn
   | cons x xs=>
    have hx:=(hI.mem x.1).1 (by rw[hfl];simp)
    have hmem:x.1∈Region.ready .any ops listed:=by
     simp only[Region.ready,List.mem_filter,List.mem_range]
     refine⟨hx.1,?_⟩
     have:listed.getD x.1 true=false:=hx.2
     have ho:ops[x.1]?=some ops[x.1]:=Array.getElem?_eq_getElem hx.1
     simp only[this,Bool.not_false,Bool.true_and,ho,Option.map_some,Option.getD_some]
     rw[Array.all_eq_true]
     intro k hk
     have hmem:=Array.getElem_mem hk
     by_cases hb:Region.binds .any (ops[x.1].after[k])=true
     ·have hlt:=hon x.1 _ ho _ hmem hb
      have AX:jQ ops x.1 (ops[x.1].after[k]).on=true:=by
       simp only[jQ,ho,Array.any_eq_true]
       exact⟨k,hk,by simp[hb]⟩
      have hnot:(ops[x.1].after[k]).on∉(bV l).map (·.1):=by
       intro hm
       rw[hfl] at hm
       simp only[List.map_cons,List.mem_cons,List.mem_map] at hm
       rcases hm with hm|⟨y,hy,hm⟩
       ·have:=hI.self x (by rw[hfl];simp)
        rw[hm] at AX
        rw[AX] at this;cases this
       ·have hd:=hI.dep
        rw[hfl] at hd
        have:=(List.pairwise_cons.1 hd).1 y hy
        rw[hm,AX] at this
        cases this
      have h2:¬listed.getD (ops[x.1].after[k]).on true=false:=fun e=>hnot ((hI.mem _).2 ⟨hlt,e⟩)
      have:=(Jq listed _ hI.size hlt).2 h2
      simp[this]
     ·simp[hb]
    rw[hr] at hmem;cases hmem
  ·simp only[Region.ready,List.mem_filter,List.mem_range,Bool.and_eq_true,Bool.not_eq_true'] at hj
   obtain⟨hjs,hjl,hja⟩:=hj
   have hjm:=(hI.mem j).2 ⟨hjs,hjl⟩
   cases hoj:ops[j]? with
   | none=>simp[hoj] at hja
   | some oj=>
    simp only[hoj,Option.map_some,Option.getD_some] at hja
    have yT:∀d,jQ ops j d=true→listed.getD d false=true:=fun d hd=>by
     simp only[jQ,hoj,Array.any_eq_true] at hd
     obtain⟨k,hk,hd⟩:=hd
     simp only[Bool.and_eq_true,beq_iff_eq] at hd
     rw[Array.all_eq_true] at hja
     have:=hja k hk
     rw[hd.1] at this
     simpa[hd.2] using this
    have hbl:∀r,r<ops.size→((Region.before ops).getD j 0).testBit r=true→listed.getD r false=true:=fun r hr hb=>by
     simp only[jU,List.all_eq_true,List.mem_range] at hbf
     have:=hbf j hjs r hr
     simp only[hb,Bool.not_true,Bool.false_or,Bool.or_eq_true,List.any_eq_true,List.mem_range,Bool.and_eq_true] at this
     rcases this with h|⟨d,_,h1,h2⟩
     ·exact yT r h
     ·exact hI.closed d r hr (yT d h1) h2
    have hnotin:∀x∈bV l,((Region.before ops).getD j 0).testBit x.1=false:=fun x hx=>by
     have hxm:=(hI.mem x.1).1 (List.mem_map.2 ⟨x,hx,rfl⟩)
     cases hb:((Region.before ops).getD j 0).testBit x.1 with
     | false=>rfl
     | true=>exact absurd hxm.2 ((Jq listed x.1 hI.size hxm.1).1 (hbl x.1 hxm.1 hb))
    have hclosed:∀d r,r<ops.size→(listed.setIfInBounds j true).getD d false=true→((Region.before ops).getD d 0).testBit r=true→(listed.setIfInBounds j true).getD r false=true:=by
     intro d r hr hd hb
     by_cases e:r=j
     ·subst e;simp[Array.getD,hI.size,hr]
     ·have hg:(listed.setIfInBounds j true).getD r false=listed.getD r false:=getD_set_ne _ _ _ _ _ e
      rw[hg]
      by_cases e2:d=j
      ·subst e2;exact hbl r hr hb
      ·have hg2:(listed.setIfInBounds j true).getD d false=listed.getD d false:=getD_set_ne _ _ _ _ _ e2
       rw[hg2] at hd
       exact hI.closed d r hr hd hb
    have TQ:(listed.setIfInBounds j true).getD j true=true:=by simp[Array.getD,hI.size,hjs]
    have Jt:∀(F:List Nat),(∀i,i∈F↔i∈(bV l).map (·.1)∧i≠j)→∀i,i∈F↔i<ops.size∧(listed.setIfInBounds j true).getD i true=false:=fun F hF i=>by
     rw[hF,hI.mem]
     by_cases e:i=j
     ·subst e;simp[TQ]
     ·have hg:(listed.setIfInBounds j true).getD i true=listed.getD i true:=getD_set_ne _ _ _ _ _ e
      rw[hg];simp[e]
    obtain⟨⟨j',kj⟩,hxf,hje⟩:=List.mem_map.1 hjm
    obtain rfl:j'=j:=hje
    obtain⟨it,hit,hin⟩:=List.mem_flatMap.1 hxf
    obtain⟨l1,l2,rfl⟩:=List.append_of_mem hit
    have hpw:=List.pairwise_append.1 hI.pair
    have hfe:bV (l1++it::l2)=bV l1++(it.fl++bV l2):=by rw[eu,iK]
    have hok:∀x∈bV l1,dH ops (Region.before ops) x (j',kj)=true∧((Region.before ops).getD j' 0).testBit x.1=false:=fun x hx=>by
     obtain⟨y,hy,hxy⟩:=List.mem_flatMap.1 hx
     exact⟨hpw.2.2 y hy it (by simp) x hxy (j',kj) hin,hnotin x (by rw[hfe];exact List.mem_append_left _ hx)⟩
    have hnd:=hI.nodup
    rw[hfe] at hnd
    rw[kG] at h
    cases it with
    | one i k=>
     simp only[iC.fl,List.mem_singleton,Prod.mk.injEq] at hin
     obtain⟨rfl,rfl⟩:=hin
     refine wpOp_mono (fun a' w' ⟨h1,_,_⟩=>ih (l1++l2) (listed.setIfInBounds j' true) ?_ ?_ a' w' (by rw[kG];exact h1)) (ET (kj:=kj) hoj hsel hQ (jT P ops Q S (.one j' kj::l2) (Q .normal)) (jT P ops Q S l2 (Q .normal)) ?_ l1 hok a w h)
     ·rintro a w ⟨o,ho,h⟩
      rcases kj with b|_|_|_
      case inr.none=>obtain⟨v,hy,h⟩:=h;exact (hy w).wpOp ho ⟨h,fun h=>(by cases h),fun _=>rfl⟩
      case inr.some.true=>obtain⟨hS,v,hy,h⟩:=h;exact (hy w hS).wpOp ho ⟨h,fun h=>(by cases h),fun _=>rfl⟩
      case inr.some.false=>obtain⟨v,hy,h⟩:=h;exact hy.wpOp ho ⟨h,fun h=>(by cases h),fun _=>rfl⟩
      case inl=>exact wpOp_mono (fun a' w' ⟨h1,h2⟩=>⟨h2,fun hb=>h1 (by cases hb;rfl),fun hb=>(by simp[Kd.eff] at hb)⟩) h
     ·rw[hfe] at hn;rw[eu];simp[iC.fl] at hn ⊢;omega
     ·have hpf:List.Sublist (l1++l2) (l1++iC.one j' kj::l2):=List.Sublist.append_left (List.sublist_cons_self _ _) _
      have hsf:List.Sublist (bV (l1++l2)) (bV (l1++iC.one j' kj::l2)):=by
       rw[hfe,eu]
       exact List.Sublist.append_left (List.sublist_append_right _ _) _
      refine⟨by simp[hI.size],Jt _ fun i=>?_,?_,hI.pair.sublist hpf,hI.dep.sublist hsf,fun x hx=>hI.self x (hsf.subset hx),fun b E hm=>hI.grp b E (hpf.subset hm),hclosed⟩
      ·rw[hfe,eu]
       simp only[iC.fl,lS,List.map_cons,List.map_nil,List.mem_append,List.mem_cons,List.not_mem_nil,or_false]
       have hn2:=hI.nodup
       rw[hfe] at hn2
       simp only[iC.fl,lS,List.map_cons,List.map_nil,List.nodup_append,List.mem_append,List.mem_cons,List.not_mem_nil,or_false] at hn2
       constructor
       ·rintro (hi|hi)
        ·exact⟨.inl hi,fun e=>hn2.2.2 i hi j' (.inl rfl) e⟩
        ·exact⟨.inr (.inr hi),fun e=>hn2.2.1.2.2 j' rfl i hi e.symm⟩
       ·rintro⟨hi|hi|hi,hne⟩
        ·exact .inl hi
        ·exact absurd hi hne
        ·exact .inr hi
      ·exact hI.nodup.sublist (hsf.map _)
    | grp b E=>
     obtain⟨x,Gy,aau⟩:=List.mem_flatMap.1 (show (j',kj)∈E.flatMap (nK b) from hin)
     have hG:=hI.grp b E (by simp)
     have hxm:(x.1,(.inl b:Kd))∈bV (l1++iC.grp b E::l2):=by
      rw[hfe]
      refine List.mem_append_right _ (List.mem_append_left _ ?_)
      exact List.mem_flatMap.2 ⟨x,Gy,List.mem_cons_self⟩
     have hj':(j',kj)=(x.1,.inl b):=by
      rcases List.mem_cons.1 aau with e|hm
      ·exact e
      ·exfalso
       obtain⟨u,hu,e⟩:=List.mem_map.1 hm
       have e1:u=j':=congrArg Prod.fst e
       have h1:=hG.own x Gy u hu
       have h2:=hnotin _ hxm
       rw[e1] at h1
       rw[h1] at h2
       cases h2
     obtain⟨rfl,rfl⟩:j'=x.1∧kj=.inl b:=Prod.mk.inj hj'
     obtain⟨E1,E2,aav,hEe,hEr⟩:=List.exists_erase_eq Gy
     have hfl:bV (l1++iC.grp b E::l2)=bV l1++(E1.flatMap (nK b)++((x.1,.inl b)::((x.2.map fun j=>(j,(.inr none:Kd)))++E2.flatMap (nK b)))++bV l2):=by
      rw[hfe];show bV l1++(E.flatMap (nK b)++bV l2)=_
      rw[hEe,List.flatMap_append,List.flatMap_cons]
      simp[nK]
     have hfn:bV (l1++(x.2.map (fun j=>iC.one j (.inr none))++iC.grp b (E.erase x)::l2))=bV l1++((x.2.map fun j=>(j,(.inr none:Kd)))++(E1.flatMap (nK b)++E2.flatMap (nK b))++bV l2):=by
      rw[eu,eu,iK]
      show bV l1++(_++((E.erase x).flatMap (nK b)++bV l2))=_
      rw[hEr,List.flatMap_append]
      have:bV (x.2.map fun j=>iC.one j (.inr none))=x.2.map fun j=>(j,(.inr none:Kd)):=by
       unfold bV
       rw[List.flatMap_map]
       induction x.2 with
       | nil=>rfl
       | cons u us ih=>rw[List.flatMap_cons,ih];rfl
      rw[this]
      simp
     have hperm:(bV (l1++iC.grp b E::l2)).Perm ((x.1,.inl b)::bV (l1++(x.2.map (fun j=>iC.one j (.inr none))++iC.grp b (E.erase x)::l2))):=by
      rw[hfl,hfn]
      refine List.Perm.trans ?_ List.perm_middle
      refine List.Perm.append_left _ ?_
      refine List.Perm.append_right (bV l2) (show List.Perm _ ((x.1,(.inl b:Kd))::_) from List.Perm.trans List.perm_middle (List.Perm.cons _ ?_))
      rw[←List.append_assoc,←List.append_assoc]
      exact List.Perm.append_right _ List.perm_append_comm
     have hnd':=(hperm.map (fun y:Nat×Kd=>y.1)).nodup_iff.1 hI.nodup
     rw[List.map_cons] at hnd'
     obtain⟨hxn,aaw⟩:=List.nodup_cons.1 hnd'
     have Ql:∀y∈E1,y∈E∧y≠x:=fun y hy=>⟨by rw[hEe];simp[hy],fun e=>aav (by rw[←e];exact hy)⟩
     have Qm:∀y∈E2,y∈E∧y≠x:=fun y hy=>by
      refine⟨by rw[hEe];simp[hy],fun e=>?_⟩
      have hn0:=hI.nodup
      rw[hfl] at hn0
      simp only[lS,List.map_cons] at hn0
      have h3:=(List.nodup_append.1 (List.nodup_append.1 (List.nodup_append.1 hn0).2.1).1).2.1
      refine (List.nodup_cons.1 h3).1 (List.mem_append_right _ (List.mem_map.2 ⟨(x.1,.inl b),List.mem_flatMap.2 ⟨y,hy,by rw[e];exact List.mem_cons_self⟩,rfl⟩))
     have hfr:∀y∈E,((Region.before ops).getD x.1 0).testBit y.1=false:=fun y hy=>hnotin (y.1,.inl b) (by rw[hfe];refine List.mem_append_right _ (List.mem_append_left _ ?_);exact List.mem_flatMap.2 ⟨y,hy,List.mem_cons_self⟩)
     have wu:∀u∈x.2,∀v∈E1.flatMap (nK b)++E2.flatMap (nK b),dH ops (Region.before ops) (u,.inr none) v=true:=fun u hu v hv=>by
      rcases List.mem_append.1 hv with hv|hv
      ·obtain⟨y,hy,hvy⟩:=List.mem_flatMap.1 hv
       exact hG.other x Gy y (Ql y hy).1 (fun e=>(Ql y hy).2 e.symm) (hfr y (Ql y hy).1) u hu v hvy
      ·obtain⟨y,hy,hvy⟩:=List.mem_flatMap.1 hv
       exact hG.other x Gy y (Qm y hy).1 (fun e=>(Qm y hy).2 e.symm) (hfr y (Qm y hy).1) u hu v hvy
     have TR:∀{u v:Nat×Kd},dH ops (Region.before ops) u v=true→jQ ops u.1 v.1=false:=fun h=>by
      simp only[dH,Bool.and_eq_true,Bool.not_eq_true'] at h
      exact h.1
     refine wpOp_mono (fun a' w' ⟨h1,_,_⟩=>ih (l1++(x.2.map (fun j=>iC.one j (.inr none))++iC.grp b (E.erase x)::l2)) (listed.setIfInBounds x.1 true) ?_ ?_ a' w' (by rw[kG];exact h1)) (ET (kj:=.inl b) hoj hsel hQ (jT P ops Q S (.grp b E::l2) (Q .normal)) (jT P ops Q S (x.2.map (fun j=>iC.one j (.inr none))++iC.grp b (E.erase x)::l2) (Q .normal)) ?_ l1 hok a w h)
     ·intro a w h
      have xQ:(E.all fun r=>!((Region.before ops).getD x.1 0).testBit r.1)=true:=by
       rw[List.all_eq_true]
       intro r hr
       have h9:((Region.before ops).getD x.1 0).testBit r.1=false:=hnotin (r.1,.inl b) (by rw[hfe];refine List.mem_append_right _ (List.mem_append_left _ ?_);exact List.mem_flatMap.2 ⟨r,hr,List.mem_cons_self⟩)
       rw[h9];rfl
      have hlen:E.length=(E.erase x).length+1:=by
       have hp:0<E.length:=List.length_pos_of_mem Gy
       rw[List.length_erase_of_mem Gy];omega
      simp only[jT] at h
      rw[hlen] at h
      refine wpOp_mono (fun a' w' ⟨h1,h2⟩=>⟨TS (.grp b (E.erase x)::l2) (Q .normal) x.2 a' w' h2,fun hb=>h1 (by cases hb;rfl),fun hb=>(by simp[Kd.eff] at hb)⟩) (h x Gy xQ)
     ·have:=hperm.length_eq
      rw[List.length_cons] at this
      omega
     ·have hc:=List.pairwise_cons.1 hpw.2.1
      have hl1:∀y∈l1,∀u∈y.fl,∀v,v∈(x.2.map fun j=>(j,(.inr none:Kd)))∨v∈E1.flatMap (nK b)++E2.flatMap (nK b)→dH ops (Region.before ops) u v=true:=fun y hy u hu v hv=>by
       refine hpw.2.2 y hy (.grp b E) (by simp) u hu v ?_
       show v∈E.flatMap (nK b)
       rw[hEe,List.flatMap_append,List.flatMap_cons]
       rcases hv with hv|hv
       ·exact List.mem_append_right _ (List.mem_append_left _ (List.mem_cons_of_mem _ hv))
       ·rcases List.mem_append.1 hv with hv|hv
        ·exact List.mem_append_left _ hv
        ·exact List.mem_append_right _ (List.mem_append_right _ hv)
      have hl2:∀y∈l2,∀v∈y.fl,∀u,u∈(x.2.map fun j=>(j,(.inr none:Kd)))∨u∈E1.flatMap (nK b)++E2.flatMap (nK b)→dH ops (Region.before ops) u v=true:=fun y hy v hv u hu=>by
       refine hc.1 y hy u ?_ v hv
       show u∈E.flatMap (nK b)
       rw[hEe,List.flatMap_append,List.flatMap_cons]
       rcases hu with hu|hu
       ·exact List.mem_append_right _ (List.mem_append_left _ (List.mem_cons_of_mem _ hu))
       ·rcases List.mem_append.1 hu with hu|hu
        ·exact List.mem_append_left _ hu
        ·exact List.mem_append_right _ (List.mem_append_right _ hu)
      have hgf:iC.fl (.grp b (E.erase x))=E1.flatMap (nK b)++E2.flatMap (nK b):=by
       show (E.erase x).flatMap (nK b)=_
       rw[hEr,List.flatMap_append]
      have hone:∀y∈x.2.map (fun j=>iC.one j (.inr none)),∀u∈y.fl,u∈(x.2.map fun j=>(j,(.inr none:Kd))):=fun y hy u hu=>by
       obtain⟨j,hj,rfl⟩:=List.mem_map.1 hy
       rw[List.mem_singleton.1 hu]
       exact List.mem_map.2 ⟨j,hj,rfl⟩
      refine⟨by simp[hI.size],Jt _ fun k=>?_,aaw,?_,?_,fun y hy=>hI.self y (hperm.symm.subset (List.mem_cons_of_mem _ hy)),?_,hclosed⟩
      ·have hmm:=(hperm.map (fun y:Nat×Kd=>y.1)).mem_iff (a:=k)
       rw[List.map_cons,List.mem_cons] at hmm
       rw[hmm]
       constructor
       ·intro hk
        exact⟨.inr hk,fun e=>hxn (by rw[←e];exact hk)⟩
       ·rintro⟨rfl|hk,hne⟩
        ·exact absurd rfl hne
        ·exact hk
      ·refine List.pairwise_append.2 ⟨hpw.1,List.pairwise_append.2 ⟨?_,List.pairwise_cons.2 ⟨fun y hy u hu v hv=>hl2 y hy v hv u (.inr (by rw[←hgf];exact hu)),hc.2⟩,fun y hy z hz u hu v hv=>?_⟩,fun y hy z hz u hu v hv=>?_⟩
       ·rw[List.pairwise_map]
        refine (hG.seq x Gy).imp fun h u hu v hv=>?_
        rw[List.mem_singleton.1 hu,List.mem_singleton.1 hv]
        exact h
       ·have h1:=hone y hy u hu
        rcases List.mem_cons.1 hz with rfl|hz
        ·obtain⟨j,hj,rfl⟩:=List.mem_map.1 h1
         exact wu j hj v (by rw[←hgf];exact hv)
        ·exact hl2 z hz v hv u (.inl h1)
       ·rcases List.mem_append.1 hz with hz|hz
        ·exact hl1 y hy u hu v (.inl (hone z hz v hv))
        ·rcases List.mem_cons.1 hz with rfl|hz
         ·exact hl1 y hy u hu v (.inr (by rw[←hgf];exact hv))
         ·exact hpw.2.2 y hy z (by simp[hz]) u hu v hv
      ·have hd:=hI.dep
       rw[hfl] at hd
       rw[hfn]
       obtain⟨a1,a2,a3⟩:=List.pairwise_append.1 hd
       obtain⟨b1,b2,b3⟩:=List.pairwise_append.1 a2
       obtain⟨c1,c2,c3⟩:=List.pairwise_append.1 b1
       obtain⟨d1,d2⟩:=List.pairwise_cons.1 c2
       obtain⟨e1,e2,e3⟩:=List.pairwise_append.1 d2
       refine List.pairwise_append.2 ⟨a1,List.pairwise_append.2 ⟨List.pairwise_append.2 ⟨e1,List.pairwise_append.2 ⟨c1,e2,fun y hy z hz=>c3 y hy z (List.mem_cons_of_mem _ (List.mem_append_right _ hz))⟩,fun y hy z hz=>?_⟩,b2,fun y hy z hz=>b3 y ?_ z hz⟩,fun y hy z hz=>a3 y hy z ?_⟩
       ·obtain⟨j,hj,rfl⟩:=List.mem_map.1 hy
        exact TR (wu j hj z hz)
       ·rcases List.mem_append.1 hy with hy|hy
        ·exact List.mem_append_right _ (List.mem_cons_of_mem _ (List.mem_append_left _ hy))
        ·rcases List.mem_append.1 hy with hy|hy
         ·exact List.mem_append_left _ hy
         ·exact List.mem_append_right _ (List.mem_cons_of_mem _ (List.mem_append_right _ hy))
       ·rcases List.mem_append.1 hz with hz|hz
        ·rcases List.mem_append.1 hz with hz|hz
         ·exact List.mem_append_left _ (List.mem_append_right _ (List.mem_cons_of_mem _ (List.mem_append_left _ hz)))
         ·rcases List.mem_append.1 hz with hz|hz
          ·exact List.mem_append_left _ (List.mem_append_left _ hz)
          ·exact List.mem_append_left _ (List.mem_append_right _ (List.mem_cons_of_mem _ (List.mem_append_right _ hz)))
        ·exact List.mem_append_right _ hz
      ·intro b' E' hm
       rcases List.mem_append.1 hm with hm|hm
       ·exact hI.grp b' E' (List.mem_append_left _ hm)
       ·rcases List.mem_append.1 hm with hm|hm
        ·obtain⟨j,_,e⟩:=List.mem_map.1 hm
         cases e
        ·rcases List.mem_cons.1 hm with e|hm
         ·cases e
          exact hG.erase x
         ·exact hI.grp b' E' (by simp[hm])
def Bc (ops:Array Oper) (bf:Array Nat):List iC→Bool
 | []=>true
 | .one _ _::l=>Bc ops bf l
 | .grp b E::l=>TN ops bf b E&&Bc ops bf l
theorem xR {bf:Array Nat}:∀(l:List iC),Bc ops bf l=true→∀b E,iC.grp b E∈l→Qj ops bf b E
 | [],_,_,_,h=>by cases h
 | .one _ _::l,h,b,E,hm=>by
  rcases List.mem_cons.1 hm with e|hm
  ·cases e
  ·exact xR l h b E hm
 | .grp b' E'::l,h,b,E,hm=>by
  simp only[Bc,Bool.and_eq_true] at h
  rcases List.mem_cons.1 hm with e|hm
  ·cases e
   exact TP h.1
  ·exact xR l h.2 b E hm
def OY (ops:Array Oper) (l:List iC):Bool:=
 Ju ops (Region.before ops) l&&TT ops (bV l)&&ES ops&&jU ops (Region.before ops)&&(bV l).length==ops.size&&nodupB ((bV l).map (·.1))&&((bV l).map (·.1)).all (fun i=>decide (i<ops.size))&&(List.range ops.size).all (fun i=>((bV l).map (·.1)).contains i) &&
 ops.all (fun o=>o.after.all fun e=>!Region.binds .any e||decide (e.on<ops.size))&&Bc ops (Region.before ops) l
theorem gq {id:Nat} {a:Act} {w:World} (hm:P.follows .mixedOrders=true) (S:World→Prop) (l:List iC) (hok:OY ops l=true)
 (h:jT P ops (NoPanic Q) S l (Q .normal) a w.drew):(Code.region id ops true).wp P Q a w:=by
 simp only[OY,Bool.and_eq_true] at hok
 obtain⟨⟨⟨⟨⟨⟨⟨⟨⟨h1,h0⟩,h2⟩,h3⟩,h4⟩,h7⟩,h8⟩,h5⟩,h6⟩,h9⟩:=hok
 have hlen:(bV l).length=ops.size:=by simpa using h4
 have hall:∀i,i<ops.size→i∈(bV l).map (·.1):=fun i hi=>by
  simp only[List.all_eq_true,List.mem_range] at h5
  simpa using h5 i hi
 have hback:∀i,i∈(bV l).map (·.1)→i<ops.size:=fun i hi=>by
  rw[List.all_eq_true] at h8
  simpa using h8 i hi
 have hd:=Gz _ h0
 refine wp_region_noPanic (wp_region_any hm ?_)
 refine Qk (S:=S) ?_ ?_ h3 ?_ ops.size l _ hlen ?_ a w.drew h
 ·intro j o cs b ho hsel
  simp only[ES,Array.all_eq_true] at h2
  obtain⟨hj,rfl⟩:=Array.getElem?_eq_some_iff.1 ho
  have:=h2 j hj
  rw[hsel] at this
  cases this
 ·intro c a d v w hh;exact hh
 ·intro j o ho e he hb
  obtain⟨hj,rfl⟩:=Array.getElem?_eq_some_iff.1 ho
  rw[Array.all_eq_true] at h6
  have:=h6 j hj
  rw[Array.all_eq_true] at this
  obtain⟨k,hk,rfl⟩:=Array.mem_iff_getElem.1 he
  have:=this k hk
  simpa[hb] using this
 ·refine⟨by simp,fun i=>⟨fun hi=>?_,fun hi=>hall i hi.1⟩,pO _ h7,Bd l h1,hd.1,hd.2,xR l h9,fun d r _ hd=>?_⟩
  ·have:=hback i hi
   exact⟨this,by simp[Array.getD,this]⟩
  ·exfalso
   simp only[Array.getD,Array.size_replicate] at hd
   split at hd<;>simp at hd
theorem MB {W:World} {Pre Mid Post:aG} {v1 v2:Value} {DT:List Value} {a0:Act} {i j:Nat} {js:List Nat} {oi oj:Oper} {di dj:Option Tmp} (hdi:aZ ops i=di) (hdj:aZ ops j=dj) (hoi:ops[i]?=some oi) (hsi:∀cs b,oi.op≠.select cs b) (hoj:ops[j]?=some oj) (hsj:∀cs b,oj.op≠.select cs b)
 (hb:((Region.before ops).getD j 0).testBit i=true) (h1:iq P ops W oi a0 Pre (fun v=>sep (fact (v=v1)) Mid)) (h2:iq P ops W oj (a0.put di v1) Mid (fun v=>sep (fact (v=v2)) Post))
 (hw2:∀v,Region.wanted oj (yielded ops (a0.put di v).tmps)=true) (hpl:js.all (mO ops)=true) (hF:vW P ops ((a0.put di v1).put dj v2) js DT):
 uj P ops W a0 (vV Pre Mid Post v1 v2 DT) [] [(i,[]),(j,js)]:=by
 subst hdj
 exact sU hdi hoi hsi hoj hsj hb h1 h2 hw2 hpl hF
theorem EM {W:World} {Pre Mid Post:aG} {v1 u1 v2:Value} {a0:Act} {i k j:Nat} {oi oj:Oper} {di dk:Option Tmp} (hdi:aZ ops i=di) (hdk:aZ ops k=dk) (hoi:ops[i]?=some oi) (hsi:∀cs b,oi.op≠.select cs b) (hoj:ops[j]?=some oj) (hsj:∀cs b,oj.op≠.select cs b)
 (hb:((Region.before ops).getD j 0).testBit i=true) (h1:iq P ops W oi a0 Pre (fun v=>sep (fact (v=v1)) Mid)) (hpl:mO ops k=true) (hF:vW P ops (a0.put di v1) [k] [u1])
 (h2:iq P ops W oj ((a0.put di v1).put dk u1) Mid (fun v=>sep (fact (v=v2)) Post))
 (hw2:∀v u,Region.wanted oj (yielded ops ((a0.put di v).put dk u).tmps)=true):
 uj P ops W a0 (WA Pre Mid Post v1 u1 v2) [] [(i,[k]),(j,[])]:=by
 subst hdk
 exact TU hdi hoi hsi hoj hsj hb h1 hpl hF h2 hw2
theorem twoA_S {W:World} {Pre Mid Post:aG} {v1 v2:Value} {DT:List Value} (h1:∀w X,Sat W w (sep Pre X)→S w) (h2:∀w X,Sat W w (sep Mid X)→S w) (h3:∀w X,Sat W w (sep Post X)→S w):∀us w X,Sat W w (sep (vV Pre Mid Post v1 v2 DT us) X)→S w
 | [],w,X,h=>h1 w X h
 | [_],w,X,h=>by
  rw[vV,aj] at h
  exact h2 w X (Sat.fact.1 h).2
 | _::_::_,w,X,h=>by
  rw[vV,aj] at h
  exact h3 w X (Sat.fact.1 h).2
theorem Y6 {W:World} {Pre Mid Post:aG} {v1 u1 v2:Value} (h1:∀w X,Sat W w (sep Pre X)→S w) (h2:∀w X,Sat W w (sep Mid X)→S w) (h3:∀w X,Sat W w (sep Post X)→S w):∀us w X,Sat W w (sep (WA Pre Mid Post v1 u1 v2 us) X)→S w
 | [],w,X,h=>h1 w X h
 | [_],w,X,h=>by
  rw[WA,aj] at h
  exact h2 w X (Sat.fact.1 h).2
 | [_,_],w,X,h=>by
  rw[WA,aj] at h
  exact h2 w X (Sat.fact.1 h).2
 | _::_::_::_,w,X,h=>by
  rw[WA,aj] at h
  exact h3 w X (Sat.fact.1 h).2
end
end PA
namespace PA
open Go
def QS (a b:Rt):Bool:=decide (a.n*b.d<b.n*a.d)
def jg (r:Rt):Bool:=okR r&&(decide (r.n≤1073741824)&&(decide (-1073741824≤r.n)&&decide (r.d≤32768)))
def Iv.lw (x:Iv):Rt:=⟨x.ln,x.ld⟩
def Iv.up (x:Iv):Rt:=⟨x.hn,x.hd⟩
def zR (r:Rt):Bool:=r.n==0&&r.d==0
def eqR (a b:Rt):Bool:=a.n==b.n&&a.d==b.d
def kC (x:Iv):Bool:=
 if ((x.li&&(!zR x.lw||x.lo))||(x.hi&&(!zR x.up||x.ho)))=true then false
 else if ((!x.li&&!jg x.lw)||(!x.hi&&!jg x.up))=true then false
 else if (x.li||x.hi)=true then true
 else if eqR x.lw x.up=true then !x.lo&&!x.ho else QS x.lw x.up
def vC (a b:Iv):Bool:=
 if (a.hi||b.li)=true then false
 else if eqR a.up b.lw=true then a.ho&&b.lo else QS a.up b.lw
def vG (l:List Iv) (j:Nat):Bool:=
 match l[j]? with
 | none=>true
 | some x=>kC x&&(match j with|0=>true|j'+1=>match l[j']? with|none=>true|some y=>vC y x)
def Cc (l:List Iv) (n:Nat):Bool:=(List.range n).all (vG l)
theorem FC (l:List Iv):Cc l 0=true:=rfl
theorem yA (l:List Iv) (n:Nat):Cc l (n+1)=(Cc l n&&vG l n):=by
 unfold Cc;rw[List.range_succ,List.all_append];simp
theorem Ce {l:List Iv} {n i:Nat} (hi:i<n) (h:vG l i=false):Cc l n=false:=by
 unfold Cc
 rw[List.all_eq_false]
 exact⟨i,List.mem_range.2 hi,by rw[h];decide⟩
def WL (l:List Iv):Int:=if Cc l l.length=false then 1 else if 32<l.length then 4 else 0
def Ae (l:List Iv):Bool:=decide (WL l=0)
def qC (l:List Int) (i:Nat) (k:Nat):Bool:=
 match l[k]? with
 | none=>true
 | some r=>decide (0≤r)&&(decide (r<(i:Int))&&(match k with|0=>true|k'+1=>match l[k']? with|none=>true|some q=>decide (q<r)))
def uw (l:List Int) (i n:Nat):Bool:=(List.range n).all (qC l i)
theorem Ci (l:List Int) (i:Nat):uw l i 0=true:=rfl
theorem vH (l:List Int) (i n:Nat):uw l i (n+1)=(uw l i n&&qC l i n):=by
 unfold uw;rw[List.range_succ,List.all_append];simp
theorem QT {l:List Int} {i n k:Nat} (hk:k<n) (h:qC l i k=false):uw l i n=false:=by
 unfold uw
 rw[List.all_eq_false]
 exact⟨k,List.mem_range.2 hk,by rw[h];decide⟩
def qE (l:List Int) (i:Nat):Bool:=uw l i l.length
theorem FD {l:List Int} {i:Nat} (h:qE l i=true):∀r∈l,0≤r∧r<(i:Int):=by
 intro r hr
 obtain⟨k,hk,rfl⟩:=List.mem_iff_getElem.1 hr
 unfold qE uw at h
 have:=List.all_eq_true.1 h k (List.mem_range.2 hk)
 unfold qC at this
 rw[List.getElem?_eq_getElem hk] at this
 simp only[Bool.and_eq_true,decide_eq_true_eq] at this
 exact⟨this.1,this.2.1⟩
def qO (f:Fm):Int:=f.valid Ae
def zI:Nat→List Cl→Int
 | _,[]=>0
 | i,c::l=>if 8<c.refs.length then 4 else if qE c.refs i=false then 1 else if qO c.body≠0 then qO c.body else zI (i+1) l
def Cj (l:List Cl):Int:=if 32<l.length then 4 else zI 0 l
theorem Pn:∀(l:List Cl) (i:Nat),zI i l=0→∀(k:Nat) (hk:k<l.length),l[k].refs.length≤8∧qE l[k].refs (i+k)=true∧qO l[k].body=0
 | c::l,i,h,k,hk=>by
  unfold zI at h
  split at h
  ·cases h
  ·rename_i h1
   split at h
   ·cases h
   ·rename_i h2
    split at h
    ·rename_i h3;exact absurd h h3
    ·rename_i h3
     cases k with
     | zero=>exact⟨by simpa using h1,by simpa using h2,by simpa using h3⟩
     | succ k=>
      have:=Pn l (i+1) h k (by simpa using hk)
      simp only[List.getElem_cons_succ]
      rw[show i+(k+1)=i+1+k by omega]
      exact this
theorem NQ {l:List Cl} (h:Cj l=0):l.length≤32∧∀(k:Nat) (hk:k<l.length),l[k].refs.length≤8∧qE l[k].refs k=true∧qO l[k].body=0:=by
 unfold Cj at h
 split at h
 ·cases h
 ·rename_i h1
  refine⟨by omega,fun k hk=>?_⟩
  have:=Pn l 0 h k hk
  rwa [Nat.zero_add] at this
mutual
def Fm.iT:Fm→List Fm
 | .mk o n i k=>if o=5 then Fm.dV k else [.mk o n i k]
def Fm.dV:List Fm→List Fm
 | []=>[]
 | f::l=>Fm.iT f++Fm.dV l
end
def Fm.parts (f:Fm):List Fm:=if f.op=4 then f.kids else [f]
theorem Fm.CG:∀(l:List Fm) (f:Fm),Fm.dV (l++[f])=Fm.dV l++Fm.iT f
 | [],f=>by simp[Fm.dV]
 | g::l,f=>by rw[List.cons_append,Fm.dV,Fm.dV,Fm.CG l f,List.append_assoc]
theorem Fm.NR (l:List Fm) (i:Nat) (hi:i<l.length):Fm.dV (l.take (i+1))=Fm.dV (l.take i)++Fm.iT l[i]:=by
 rw[List.take_succ_eq_append_getElem hi,Fm.CG]
def lu (a b:Fm):Fm:=.mk 4 0 [] (a.parts++b.parts)
def fU:List Fm→List Fm→Option (List Fm)
 | [],_=>some []
 | a::x,t=>if (t.all fun b=>decide (qO (lu a b)=0))=true then (fU x t).map (t.map (lu a)++·) else none
def iO (of:Nat→Option (List Fm)) (own:List Fm):List Int→List Fm→Option (List Fm)
 | [],out=>some out
 | r::rs,out=>
  match of r.toNat with
  | none=>none
  | some x=>if 64<out.length+x.length*own.length then none else
   match fU x own with
   | none=>none
   | some y=>iO of own rs (out++y)
def NS (of:Nat→Option (List Fm)) (c:Cl):Option (List Fm):=
 if c.refs=[] then (if c.body.iT.length≤64 then some c.body.iT else none) else iO of c.body.iT c.refs []
def lX (l:List Cl) (k:Nat):Option (List Fm):=
 match l[k]? with
 | none=>none
 | some c=>NS (fun r=>if r<k then lX l r else none) c
termination_by k
theorem pV:∀{x t y:List Fm},fU x t=some y→y.length=x.length*t.length
 | [],t,y,h=>by cases h;simp
 | a::x,t,y,h=>by
  unfold fU at h
  split at h
  ·cases hc:fU x t with
   | none=>rw[hc] at h;cases h
   | some z=>
    rw[hc] at h
    cases h
    rw[dI,List.length_map,pV hc,List.length_cons,Nat.add_mul];omega
  ·cases h
theorem zh {of:Nat→Option (List Fm)} {own:List Fm}:∀{rs:List Int} {out y:List Fm},out.length≤64→iO of own rs out=some y→y.length≤64
 | [],out,y,h0,h=>by cases h;exact h0
 | r::rs,out,y,h0,h=>by
  unfold iO at h
  split at h
  ·cases h
  ·split at h
   ·cases h
   ·rename_i h1
    split at h
    ·cases h
    ·rename_i z hz
     have hl:=pV hz
     exact zh (by rw[dI,hl];omega) h
theorem KE {l:List Cl} {k:Nat} {y:List Fm} (h:lX l k=some y):y.length≤64:=by
 unfold lX at h
 split at h
 ·cases h
 ·unfold NS at h
  split at h
  ·split at h
   ·cases h;assumption
   ·cases h
  ·exact zh (by simp) h
def wL:List Fm→Int
 | []=>0
 | f::l=>if qO f≠0 then qO f else wL l
def o7 (l:List Cl):Nat→Option Nat
 | 0=>some 0
 | n+1=>match o7 l n with
  | none=>none
  | some s=>match lX l n with
   | none=>none
   | some y=>some (s+y.length)
def WM (td:List Fm) (tc:List Cl):Int:=
 if 16<td.length then 4 else if wL td≠0 then wL td else if Cj tc≠0 then Cj tc else
  match o7 tc tc.length with
  | none=>4
  | some s=>if 128<(Fm.dV td).length+s then 4 else 0
def bT (n lo hi:Int):Bool:=decide (lo≤n)&&decide (n≤hi)
def dB (k:Int):Bool:=decide (k≠5)&&(decide (k≠19)&&(decide (k≠20)&&decide (k≠21)))
def U8 (x:Pa):Pa:=
 { x with
  f:=if dB x.k=true then 0 else x.f
  o:=if x.k=0∨x.k=20∨x.k=21 then 0 else x.o
  p:=if x.k=0∨x.k=4∨x.k=5∨x.k=12∨x.k=14∨x.k=16∨x.k=17 then 0 else x.p
  q:=if x.k=0∨x.k=4∨x.k=13∨x.k=16∨x.k=17 then 0 else x.q
  u:=if x.k=4∨x.k=5∨x.k=6∨x.k=7∨x.k=8∨x.k=9∨x.k=13∨x.k=17∨x.k=18∨x.k=20∨x.k=21 then 0 else x.u
  m:=if x.k=4∨x.k=8∨x.k=21 then 0 else x.m
  sn:=if x.k=16 then 0 else x.sn
  sd:=if x.k=16 then 0 else x.sd
  td:=if x.k=0 then [] else x.td
  tc:=if x.k=0 then [] else x.tc
  cl:=if x.k=3∨x.k=15∨(x.k=13∧x.u=2) then [] else x.cl
  ea:=if x.k=0 then [] else x.ea
  fx:=if x.k=19 then Fm.zero else x.fx }
def Hr (x:Pa):Bool:=
 decide (x.f=0)&&(decide (x.o=0)&&(decide (x.p=0)&&(decide (x.q=0)&&(decide (x.u=0)&&(decide (x.m=0)&&(decide (x.sn=0)&&(decide (x.sd=0) &&
 (decide (x.fx.op=0)&&(decide (x.fx.num=0)&&(decide (x.fx.ins.length=0)&&(decide (x.fx.kids.length=0) &&
 (decide (x.td.length=0)&&(decide (x.tc.length=0)&&(decide (x.cl.length=0)&&decide (x.ea.length=0)))))))))))))))
def QU (f:Int) (l:List Ea) (j:Nat):Bool:=
 match l[j]? with
 | none=>true
 | some e=>bT e.file 0 4095&&(decide (e.file≠f)&&(bT e.day 0 131072&&!((l.take j).any fun g=>decide (g.file=e.file))))
def Es (f:Int) (l:List Ea) (n:Nat):Bool:=(List.range n).all (QU f l)
theorem QV (f:Int) (l:List Ea) (n:Nat):Es f l (n+1)=(Es f l n&&QU f l n):=by
 unfold Es;rw[List.range_succ,List.all_append];simp
theorem U9 {f:Int} {l:List Ea} {n i:Nat} (hi:i<n) (h:QU f l i=false):Es f l n=false:=by
 unfold Es
 rw[List.all_eq_false]
 exact⟨i,List.mem_range.2 hi,by rw[h];decide⟩
def Af (x:Pa):Bool:=
 if bT x.o 0 11=false∨bT x.p 1 4095=false∨bT x.q (-1) 4095=false∨x.q=x.f∨8<x.ea.length∨WM x.td x.tc≠0 then false else Es x.f x.ea x.ea.length
def nV (l:List Cl):Bool:=decide (0<l.length)&&decide (Cj l=0)
def wM (x:Pa):Bool:=bT x.p 1 4095&&(bT x.q 1 4095&&decide (x.p≠x.q))
def CJ (x:Pa):Bool:=bT x.u x.d 131072
def Ht (n d:Int):Bool:=okR ⟨n,d⟩&&(decide (0<n)&&decide (n≤d))
def aS (x:Pa):Bool:=
 if x.k=0 then Af x
 else if x.k=3∨x.k=15 then nV x.cl
 else if x.k=4 then bT x.p 1 4095&&((bT x.u 0 5||bT x.u 7 66)&&(bT x.q 0 7&&bT x.m 1 1099511627776))
 else if x.k=5 then bT x.p 1 4095&&bT x.u 0 1
 else if x.k=6∨x.k=7 then bT x.u 0 255
 else if x.k=8 then bT x.u 0 255&&bT x.m 1 12
 else if x.k=9 then CJ x
 else if x.k=12∨x.k=14 then bT x.p 1 4095
 else if x.k=13 then bT x.u 0 2&&(bT x.q 0 1&&(decide (x.u≠2)||nV x.cl))
 else if x.k=16 then wM x&&Ht x.sn x.sd
 else if x.k=17 then wM x&&CJ x
 else if x.k=18 then bT x.u 0 7
 else if x.k=19 then decide (qO x.fx=0)
 else if x.k=20 then bT x.o 0 11&&CJ x
 else if x.k=21 then bT x.o 0 11&&(bT x.u 0 18&&bT x.m 0 1099511627776)
 else true
def yB (x:Pa):Bool:=
 bT x.k 0 21&&(bT x.d 0 131072&&(bT x.n 0 1099511627776&&(bT x.f 0 4095&&(Hr (U8 x)&&aS x))))
end PA
namespace PA
open Go
theorem X8 (n d:Int):okR ⟨n,d⟩=true↔1≤d∧d≤1048576∧n≤1099511627776∧-1099511627776≤n∧Nat.gcd n.natAbs d.natAbs=1:=by
 constructor
 ·intro h
  have hr:=(dM h).1
  exact⟨hr.d1,hr.d2,hr.n2,hr.n1,Kw n d (by have:=hr.d1;simp only at this;omega) h⟩
 ·rintro⟨h1,h2,h3,h4,h5⟩
  exact mY n d h1 h2 (by omega) h5
end PA
namespace Go.Proofs.YtgicfogmdfdjmaaGreatDoor
open Go.RowKit PA
set_option maxHeartbeats 1000000 in
theorem wO {W w:World} {A:aG} (a b:Int) (ha:a.natAbs≤4611686018427387904) (hb:b.natAbs≤4611686018427387904) (h:Sat W w A):
 Calls Tryz.prog 99 #[.int .i64 a,.int .i64 b] w fun e w'=>e=.returned (.int .i64 (Nat.gcd a.natAbs b.natAbs:Nat))∧Sat W w' A:=by
 obtain⟨g,hg⟩:=aC (Nat.gcd a.natAbs b.natAbs)
 rw[←hg]
 have HG:=ah hg
 clear hg
 go_enter Tryz.func99,Tryz.ntmps99
 go_wp2
 go_loopw [0,1] (fun av bv wr=>∃x y:Int,av=.int .i64 x∧bv=.int .i64 y∧x.natAbs≤4611686018427387904∧y.natAbs≤4611686018427387904∧Hid (Nat.gcd x.natAbs y.natAbs=g)∧Sat W wr A) (fun _ bv _=>(intOf bv).natAbs)
 case atStart=>exact⟨a,b,rfl,rfl,ha,hb,ah HG.out.symm,h⟩
 case round=>
  obtain⟨x,y,rfl,rfl,hx,hy,WC,hS⟩:=hrel
  by_cases h0:y=0
  ·subst h0
   have hxg:x.natAbs=g:=by rw[←WC.out];simp
   have HGG:=ah hxg
   by_cases hneg:x<0
   ·have ew:-x=(g:Int):=by omega
    clear hxg HG ha hb h
    go_wp2
    go_ret
    exact⟨by simp,hS⟩
   ·have ew:x=(g:Int):=by omega
    clear hxg HG ha hb h
    go_wp2
    go_ret
    exact⟨rfl,hS⟩
  ·obtain⟨z,hz⟩:∃z,z=Int.tmod x y:=⟨_,rfl⟩
   have hm:Int.tmod x y=z:=hz.symm
   have hzn:z.natAbs=x.natAbs % y.natAbs:=by rw[hz,Int.natAbs_tmod]
   have hzl:z.natAbs<y.natAbs:=by rw[hzn];exact Nat.mod_lt _ (by omega)
   have hyx:(y==0)=false:=by simpa using h0
   have HZ:=ah hzn
   clear hz hzn ha hb h
   go_wp2
   refine aA rfl (fun _=>True) [(0,.p),(1,.p),(2,.p),(3,.p),(4,.p),(5,.p)] (by kernel_rfl) ?_
   have hS0:True:=trivial
   (repeat ((first|(refine eF (v:=?_) rfl rfl (fun w'=>?_) ?_;rotate_left;(go_simp;with_reducible rfl))|(refine eG (v:=?_) rfl rfl hS0 (fun w' hS=>?_) ?_;rotate_left;((try dsimp only at hS);go_simp;with_reducible rfl))|(refine eH (v:=?_) rfl rfl ?_ ?_;rotate_left;(go_simp;with_reducible rfl))|(refine bD rfl rfl ?_)|(refine bG rfl rfl hS0 ?_)|(refine bH rfl rfl ?_));simp only[Act.put,lsA,lsB,bC]))
   refine bM ?_
   go_wp2
   go_roundw
   case rel=>exact⟨y,z,rfl,rfl,hy,by omega,ah (by rw[HZ.out,←WC.out,Nat.gcd_comm y.natAbs,←Nat.gcd_rec,Nat.gcd_comm]),hS.drew⟩
   case measure=>simp[intOf];omega
theorem NT (w:World) (a b c d:Int):(binOp .eql 57 (.agg #[.int .i64 a,.int .i64 b]) (.agg #[.int .i64 c,.int .i64 d])).run Tryz.prog w=.ok (.bool (a==c&&b==d)) w:=by
 have h1:Tryz.prog.underlying 57=some (.struct (Tryz.prog.fieldsOf 57)):=by kernel_rfl
 have h2:Tryz.prog.stoodInHeld 57=false:=by kernel_rfl
 have e:=run_equalIn_struct (P:=Tryz.prog) w 9999 57 #[.int .i64 a,.int .i64 b] #[.int .i64 c,.int .i64 d] h1 h2
 rw[run_eql_struct,e]
 clear e
 have q0:∀a b:Int,(part 3 #[.int .i64 a,.int .i64 b] 0).run Tryz.prog w=.ok (.int .i64 a) w:=fun a b=>by kernel_rfl
 have q1:∀a b:Int,(part 3 #[.int .i64 a,.int .i64 b] 1).run Tryz.prog w=.ok (.int .i64 b) w:=fun a b=>by kernel_rfl
 have r0:∀a b:Int,(Op.equalIn 9999 3 (.int .i64 a) (.int .i64 b)).run Tryz.prog w=.ok (a==b) w:=fun a b=>run_equalIn_int (P:=Tryz.prog) w 9998 3 .i64 .i64 a b Tryz.underlying3
 by_cases e1:a=c
 ·by_cases e2:b=d
  ·simp[Program.fieldsOf,Tryz.underlying57,Op.eqFields,q0,q1,r0,e1,e2]
  ·simp[Program.fieldsOf,Tryz.underlying57,Op.eqFields,q0,q1,r0,e1,e2]
 ·simp[Program.fieldsOf,Tryz.underlying57,Op.eqFields,q0,r0,e1]
def FH (b:Bool):Int:=if b=true then 0 else 1
set_option maxHeartbeats 1000000 in
theorem jl {W w:World} {A:aG} (n d:Int) (h:Sat W w A):
 Calls Tryz.prog 98 #[.agg #[.int .i64 n,.int .i64 d]] w fun e w'=>e=.returned (.int .i64 (FH (okR ⟨n,d⟩)))∧Sat W w' A:=by
 have hiff:=X8 n d
 have h1:=h.alloc (.cells #[.int .i64 n,.int .i64 d] 57)
 obtain⟨B,hB⟩:=aC (w.heap.size)
 obtain⟨w1,hw1⟩:=aC (w.alloc (.cells #[.int .i64 n,.int .i64 d] 57))
 rw[←hB,←hw1] at h1
 obtain⟨k0,k1,-,-⟩:=gX h1
 have HB:=ah (And.intro hB hw1)
 have H1:=ah h1
 clear h h1 hB hw1
 by_cases c1:d<1
 ·have hr:okR ⟨n,d⟩=false:=by rw[Bool.eq_false_iff];intro e;have:=hiff.1 e;omega
  rw[hr]
  clear hiff hr
  go_enter Tryz.func98,Tryz.ntmps98
  go_upto_region 1 with (fail)
  rw[←HB.out.1,←HB.out.2]
  go_wp2
  go_ret
  exact⟨rfl,H1.out.drop⟩
 by_cases c2:1048576<d
 ·have hr:okR ⟨n,d⟩=false:=by rw[Bool.eq_false_iff];intro e;have:=hiff.1 e;omega
  rw[hr]
  clear hiff hr
  go_enter Tryz.func98,Tryz.ntmps98
  go_upto_region 1 with (fail)
  rw[←HB.out.1,←HB.out.2]
  go_wp2
  go_ret
  exact⟨rfl,H1.out.drop⟩
 by_cases c3:1099511627776<n
 ·have hr:okR ⟨n,d⟩=false:=by rw[Bool.eq_false_iff];intro e;have:=hiff.1 e;omega
  rw[hr]
  clear hiff hr
  go_enter Tryz.func98,Tryz.ntmps98
  go_upto_region 1 with (fail)
  rw[←HB.out.1,←HB.out.2]
  go_wp2
  go_ret
  exact⟨rfl,H1.out.drop⟩
 by_cases c4:n < -1099511627776
 ·have hr:okR ⟨n,d⟩=false:=by rw[Bool.eq_false_iff];intro e;have:=hiff.1 e;omega
  rw[hr]
  clear hiff hr
  go_enter Tryz.func98,Tryz.ntmps98
  go_upto_region 1 with (fail)
  rw[←HB.out.1,←HB.out.2]
  go_wp2
  go_ret
  exact⟨rfl,H1.out.drop⟩
 ·obtain⟨g,hg⟩:∃g:Nat,g=Nat.gcd n.natAbs d.natAbs:=⟨_,rfl⟩
  have HC:=ah (wO n d (by omega) (by omega) H1.out)
  rw[←hg] at HC
  have hr:okR ⟨n,d⟩=decide (g=1):=by
   rw[Bool.eq_iff_iff,hiff,←hg,decide_eq_true_eq]
   constructor
   ·exact fun e=>e.2.2.2.2
   ·exact fun e=>⟨by omega,by omega,by omega,by omega,e⟩
  rw[hr]
  clear hiff hr hg
  by_cases hg1:g=1
  ·subst hg1
   go_enter Tryz.func98,Tryz.ntmps98
   go_upto_region 1 with (fail)
   rw[←HB.out.1,←HB.out.2]
   go_wp2_with fail
   refine HC.out.mono ?_
   rintro e w2 ⟨rfl,h2⟩
   have H2:=ah h2
   clear h2 HC k0 k1
   go_wp2
   go_ret
   exact⟨rfl,H2.out.drop⟩
  ·have hgz:((g:Int)==1)=false:=by simp;omega
   have hd:decide (g=1)=false:=decide_eq_false hg1
   rw[hd]
   clear hg1 hd
   go_enter Tryz.func98,Tryz.ntmps98
   go_upto_region 1 with (fail)
   rw[←HB.out.1,←HB.out.2]
   go_wp2_with fail
   refine HC.out.mono ?_
   rintro e w2 ⟨rfl,h2⟩
   have H2:=ah h2
   clear h2 HC k0 k1
   go_wp2
   go_ret
   exact⟨rfl,H2.out.drop⟩
end Go.Proofs.YtgicfogmdfdjmaaGreatDoor
namespace PA
open Go Go.RowKit
section
variable {P:Program} {ops:Array Oper} {Q:Exit→Act→World→Prop} {S:World→Prop}
theorem Zp {b:Bool} {E:List (Nat×List Nat)} {l:List iC} {K:Act→World→Prop} {a:Act} {w:World} {n:Nat} (hn:E.length=n) (h:uT P ops Q S b n E (jT P ops Q S l K) a w):jT P ops Q S (.grp b E::l) K a w:=by
 subst hn;exact h
end
end PA
namespace PA
open Go Go.RowKit
section
variable {P:Program} {ops:Array Oper} {Q:Exit→Act→World→Prop} {S:World→Prop} {W:World}
def jA (ops:Array Oper) (L:List Nat) (f:Nat→Option Value) (a:Act):Act:=L.foldl (fun a x=>match f x with|some v=>a.put (aZ ops x) v|none=>a) a
theorem jK (x:Nat) (L:List Nat) (f:Nat→Option Value) (a:Act):jA ops (x::L) f a=jA ops L f (match f x with|some v=>a.put (aZ ops x) v|none=>a):=rfl
def lg (f:Nat→Option Value) (x:Nat) (v:Value):Nat→Option Value:=fun y=>if y=x then some v else f y
theorem aV {f:Nat→Option Value} {x y:Nat} {v:Value} (h:y≠x):lg f x v y=f y:=by unfold lg;rw[if_neg h]
theorem gW {f:Nat→Option Value} {x:Nat} {v:Value}:lg f x v x=some v:=by unfold lg;rw[if_pos rfl]
def xU (ops:Array Oper) (x y:Nat):Prop:=∀d,aZ ops x=some d→aZ ops y≠some d
theorem Bg {x:Nat} {v:Value} (f:Nat→Option Value):∀(L:List Nat),(∀y∈L,xU ops x y)→∀a:Act,jA ops L f (a.put (aZ ops x) v)=(jA ops L f a).put (aZ ops x) v
 | [],_,_=>rfl
 | y::L,h,a=>by
  rw[jK,jK]
  cases hy:f y with
  | none=>exact Bg f L (fun z hz=>h z (List.mem_cons_of_mem _ hz)) a
  | some u=>
   show jA ops L f ((a.put (aZ ops x) v).put (aZ ops y) u)=(jA ops L f (a.put (aZ ops y) u)).put (aZ ops x) v
   rw[Act.put_comm a v u (h y (List.mem_cons_self ..)),Bg f L (fun z hz=>h z (List.mem_cons_of_mem _ hz))]
theorem Bh {f g:Nat→Option Value}:∀(L:List Nat),(∀y∈L,f y=g y)→∀a:Act,jA ops L f a=jA ops L g a
 | [],_,_=>rfl
 | y::L,h,a=>by
  rw[jK,jK,h y (List.mem_cons_self ..)]
  exact Bh L (fun z hz=>h z (List.mem_cons_of_mem _ hz)) _
theorem Jv {x:Nat} {v:Value} {f:Nat→Option Value}:∀(L:List Nat),x∈L→L.Pairwise (xU ops)→L.Nodup→f x=none→∀a:Act,jA ops L (lg f x v) a=(jA ops L f a).put (aZ ops x) v
 | [],h,_,_,_,_=>by cases h
 | y::L,h,hp,hn,hx,a=>by
  obtain⟨p1,p2⟩:=List.pairwise_cons.1 hp
  obtain⟨n1,n2⟩:=List.nodup_cons.1 hn
  rw[jK,jK]
  by_cases e:x=y
  ·subst e
   rw[gW,hx]
   show jA ops L (lg f x v) (a.put (aZ ops x) v)=(jA ops L f a).put (aZ ops x) v
   rw[Bh L (g:=f) (fun z hz=>aV (x:=x) (v:=v) (fun e=>n1 (by rw[←e];exact hz))),Bg f L p1]
  ·rw[aV (Ne.symm e)]
   exact Jv L ((List.mem_cons.1 h).resolve_left e) p2 n2 hx _
theorem Jw (a:Act) (d:Option Tmp) (v:Value):(a.put d v).tmps.size=a.tmps.size:=by
 cases d with
 | none=>rfl
 | some d=>simp[Act.put]
theorem Ee {a b:Act} {t:Tmp} {v:Value} (h:a.tmps.size=b.tmps.size):(a.put (some t) v).eval (.tmp t)=(b.put (some t) v).eval (.tmp t):=by
 simp[Act.put,Act.eval,Array.getElem?_setIfInBounds,h]
theorem oQ {f:Nat→Option Value} {t:Tmp} (keep:Nat→Bool):∀(L:List Nat) (a b:Act),a.tmps.size=b.tmps.size→a.eval (.tmp t)=b.eval (.tmp t)→(∀y∈L,keep y=false→aZ ops y≠some t)→(jA ops L f a).eval (.tmp t)=(jA ops (L.filter keep) f b).eval (.tmp t)
 | [],_,_,_,h,_=>h
 | y::L,a,b,hs,h,hL=>by
  have hL':=fun z hz=>hL z (List.mem_cons_of_mem _ hz)
  rw[jK,List.filter_cons]
  by_cases hk:keep y=true
  ·rw[if_pos hk,jK]
   cases hf:f y with
   | none=>exact oQ keep L _ _ hs h hL'
   | some v=>
    refine oQ keep L _ _ (by simp only[Jw,hs]) ?_ hL'
    by_cases hd:aZ ops y=some t
    ·simp only[hd];exact Ee hs
    ·simp only
     rw[Act.eval_put fun d hd' e=>hd (by rw[hd'];cases e;rfl),Act.eval_put fun d hd' e=>hd (by rw[hd'];cases e;rfl)]
     exact h
  ·rw[if_neg hk]
   have hk':keep y=false:=by simpa using hk
   have hd:=hL y (List.mem_cons_self ..) hk'
   cases hf:f y with
   | none=>exact oQ keep L _ _ hs h hL'
   | some v=>
    refine oQ keep L _ _ (by simp only[Jw,hs]) ?_ hL'
    simp only
    rw[Act.eval_put fun d hd' e=>hd (by rw[hd'];cases e;rfl)]
    exact h
def um (P:Program) (o:Oper) (a:Act) (w:World) (Post:Value→World→Prop):Prop:=
 (∃v w',(execOp a.eval o).run P w=.ok (.value v) w'∧Post v w') ∨
 (∃f args w1,(execOp a.eval o).run P w=.ok (.enter f args) w1∧Calls P f args w1 fun e w'=>∃v,e=.returned v∧Post v w')
theorem um.go {i:Nat} {o:Oper} {a:Act} {w:World} {Post:Value→World→Prop} (ho:ops[i]?=some o) (hg:o.guard=none) (h:um P o a w Post) {K:Act→World→Prop}
 (hK:∀v w',Post v w'→K (a.put o.dst v) w'):Go.wpOp P ops Q i K a w:=by
 unfold Go.wpOp
 have hw:Region.wanted o (yielded ops a.tmps)=true:=by unfold Region.wanted;rw[hg]
 simp only[ho,hw,if_true]
 refine .inl ?_
 unfold Oper.wp
 rcases h with ⟨v,w',h1,h2⟩|⟨f,args,w1,h1,h2⟩
 ·rw[h1];exact hK v w' h2
 ·rw[h1]
  refine Calls.mono h2 ?_
  rintro e w' ⟨v,rfl,h3⟩
  exact hK v w' h3
def dagB (ops:Array Oper) (E0:List Nat) (D:Nat→List Nat):Bool:=
 E0.all fun x=>(match ops[x]? with
  | none=>false
  | some o=>o.guard.isNone&&(match o.op with|.select ..=>false|_=>true)&&E0.all fun y=>(D x).contains y||(match aZ ops y with|some t=>!(o.looksAt ops).contains t|none=>true)) &&
  (D x).all fun d=>E0.contains d&&((Region.before ops).getD x 0).testBit d
def OZ (ops:Array Oper):List Nat→Bool
 | []=>true
 | x::L=>(L.all fun y=>match aZ ops x with|some d=>aZ ops y !=some d|none=>true)&&!L.contains x&&OZ ops L
theorem Jy:∀(L:List Nat),OZ ops L=true→L.Pairwise (xU ops)∧L.Nodup
 | [],_=>⟨.nil,.nil⟩
 | x::L,h=>by
  simp only[OZ,Bool.and_eq_true,List.all_eq_true,Bool.not_eq_true'] at h
  obtain⟨⟨h1,h2⟩,h3⟩:=h
  obtain⟨i1,i2⟩:=Jy L h3
  refine⟨List.pairwise_cons.2 ⟨fun y hy d hd=>?_,i1⟩,List.nodup_cons.2 ⟨fun hm=>?_,i2⟩⟩
  ·have:=h1 y hy
   rw[hd] at this
   simpa using this
  ·simp[hm] at h2
theorem Bj {a0:Act} {b:Bool} {K:Act→World→Prop} (E0:List Nat) (D:Nat→List Nat) (T:(Nat→Option Value)→aG)
 (hB:dagB ops E0 D=true) (hdst:OZ ops E0=true) (hS:b=true→∀f w,Sat W w (T f)→S w)
 (hop:∀x∈E0,∀(f:Nat→Option Value) (w:World) (o:Oper),ops[x]?=some o→f x=none→(∀d∈D x,(f d).isSome=true)→(∀y∈E0,(f y).isSome=true→∀d∈D y,(f d).isSome=true)→Sat W w (T f) →
  um P o (jA ops (E0.filter fun y=>(D x).contains y) f a0) w (fun v w'=>Sat W w' (T (lg f x v))))
 (hfin:∀(f:Nat→Option Value) (w:World),(∀x∈E0,(f x).isSome=true)→Sat W w (T f)→K (jA ops E0 f a0) w):
 ∀(n:Nat) (E:List Nat) (f:Nat→Option Value) (w:World),E.length=n→E.Nodup→(∀x,x∈E↔x∈E0∧f x=none)→(∀y∈E0,(f y).isSome=true→∀d∈D y,(f d).isSome=true)→Sat W w (T f) →
  uT P ops Q S b n (E.map fun x=>(x,[])) K (jA ops E0 f a0) w:=by
 obtain⟨hpw,hnd⟩:=Jy E0 hdst
 have hB':=List.all_eq_true.1 hB
 intro n
 induction n with
 | zero=>
  intro E f w hl _ hE _ hT
  have he:=List.eq_nil_of_length_eq_zero hl
  subst he
  refine hfin f w (fun x hx=>?_) hT
  cases hf:f x with
  | some v=>rfl
  | none=>have:=(hE x).2 ⟨hx,hf⟩;cases this
 | succ n ih=>
  intro E f w hl hn hE hcl hT
  rintro⟨x,js⟩ hxm xQ
  obtain⟨x',hx',e⟩:=List.mem_map.1 hxm
  cases e
  obtain⟨hx0,hfx⟩:=(hE x).1 hx'
  have hb:=hB' x hx0
  simp only[Bool.and_eq_true,List.all_eq_true] at hb
  obtain⟨hb1,hb2⟩:=hb
  cases ho:ops[x]? with
  | none=>rw[ho] at hb1;cases hb1
  | some o=>
   rw[ho] at hb1
   simp only[Bool.and_eq_true,List.all_eq_true,Bool.or_eq_true] at hb1
   obtain⟨⟨hg,hs⟩,hlook⟩:=hb1
   have hg':o.guard=none:=by simpa using hg
   have hs':∀cs b,o.op≠.select cs b:=fun cs b e=>by rw[e] at hs;cases hs
   have Bl:∀d∈D x,(f d).isSome=true:=fun d hd=>by
    have h1:=hb2 d hd
    simp only[List.contains_iff_mem] at h1
    cases hf:f d with
    | some v=>rfl
    | none=>
     have hdE:=(hE d).2 ⟨h1.1,hf⟩
     have:=List.all_eq_true.1 xQ (d,[]) (List.mem_map.2 ⟨d,hdE,rfl⟩)
     simp only[h1.2] at this
     cases this
   have hd1:=hop x hx0 f w o ho hfx Bl hcl hT
   have hex:execOp (jA ops E0 f a0).eval o=execOp (jA ops (E0.filter fun y=>(D x).contains y) f a0).eval o:=by
    refine execOp_congr o hs' fun z hz=>?_
    cases z with
    | tmp t=>
     refine oQ _ E0 a0 a0 rfl rfl fun y hy hk hdt=>?_
     have:=hlook y hy
     rw[hk,hdt] at this
     simp only[Bool.false_eq_true,false_or,Bool.not_eq_true',List.contains_eq_mem,decide_eq_false_iff_not] at this
     exact this (List.mem_append_left _ (List.mem_filterMap.2 ⟨.tmp t,by simpa using hz,rfl⟩))
    | _=>rfl
   have hd2:um P o (jA ops E0 f a0) w (fun v w'=>Sat W w' (T (lg f x v))):=by
    unfold um at hd1 ⊢
    rw[hex];exact hd1
   refine hd2.go ho hg' fun v w' hT'=>⟨fun hb=>hS hb _ w' hT',?_⟩
   show uT P ops Q S b n _ K _ w'
   have hdo:o.dst=aZ ops x:=by unfold aZ;rw[ho];rfl
   rw[hdo,←Jv E0 hx0 hpw hnd hfx]
   have hel:((E.map fun x=>(x,([]:List Nat))).erase (x,[]))=(E.erase x).map fun x=>(x,([]:List Nat)):=by
    clear hl hn hE hxm xQ hx'
    induction E with
    | nil=>rfl
    | cons y E ihE=>
     rw[List.map_cons,List.erase_cons,List.erase_cons]
     by_cases e:y=x
     ·subst e;simp
     ·have e1:(y==x)=false:=by simpa using e
      have e2:((y,([]:List Nat))==(x,[]))=false:=by simp[e]
      rw[e1,e2]
      simp only[Bool.false_eq_true,if_false,List.map_cons,ihE]
   rw[hel]
   refine ih (E.erase x) (lg f x v) w' (by rw[List.length_erase_of_mem hx',hl];rfl) (hn.erase x) (fun y=>?_) (fun y hy hys d hd=>?_) hT'
   ·rw[hn.mem_erase_iff,hE]
    by_cases e:y=x
    ·subst e;simp[gW]
    ·rw[aV e];simp[e]
   ·by_cases e:d=x
    ·subst e;rw[gW];rfl
    ·rw[aV e]
     by_cases e2:y=x
     ·subst e2;exact Bl d hd
     ·rw[aV e2] at hys
      exact hcl y hy hys d hd
end
end PA
namespace PA
open Go Go.RowKit
section
variable {P:Program} {ops:Array Oper} {Q:Exit→Act→World→Prop}
variable {S:World→Prop} {W:World}
def Zq (P:Program) (o:Oper) (a:Act) (w:World) (Post:Value→World→Prop):Prop:=um P o a w Post∨∃w',(execOp a.eval o).run P w=.ok .skip w'∧Post undef w'
theorem Zq.go {i:Nat} {o:Oper} {a:Act} {w:World} {Post:Value→World→Prop} (ho:ops[i]?=some o) (hg:o.guard=none) (h:Zq P o a w Post) {K:Act→World→Prop}
 (hK:∀v w',Post v w'→K (a.put o.dst v) w'):Go.wpOp P ops Q i K a w:=by
 rcases h with h|⟨w',h1,h2⟩
 ·exact h.go ho hg hK
 ·unfold Go.wpOp
  have hw:Region.wanted o (yielded ops a.tmps)=true:=by unfold Region.wanted;rw[hg]
  simp only[ho,hw,if_true]
  refine .inl ?_
  unfold Oper.wp
  rw[h1];exact hK undef w' h2
end
end PA
namespace Go.Proofs.YtgicfogmdfdjmaaGreatDoor
open Go.RowKit PA
theorem _root_.PA.OV {k:IntKind} {a b:Int} (h:a=b):Ending.returned (.int k a)=.returned (.int k b):=by rw[h]
def KpB (n B:Nat) (W W':World):Prop:=Below n W W'∧W'.cell? ⟨B,0,none⟩=W.cell? ⟨B,0,none⟩
theorem KpB.refl (n B:Nat) (W:World):KpB n B W W:=⟨Below.refl _ _,rfl⟩
theorem KpB.trans {n B:Nat} {W W' W'':World} (h:KpB n B W W') (k:KpB n B W' W''):KpB n B W W'':=⟨h.1.trans k.1,k.2.trans h.2⟩
attribute [local go_sem] Oper.semAt_some
end Go.Proofs.YtgicfogmdfdjmaaGreatDoor
namespace Go.Proofs.YtgicfogmdfdjmaaGreatDoor
open Go.RowKit PA
attribute [local go_sem] Oper.semAt_some
end Go.Proofs.YtgicfogmdfdjmaaGreatDoor
namespace Go.Proofs.YtgicfogmdfdjmaaGreatDoor
open Go.RowKit PA
attribute [local go_sem] Oper.semAt_some
def wv (x:Nat):Value:=.int .i64 (wrap64 (x:Int))
end Go.Proofs.YtgicfogmdfdjmaaGreatDoor
namespace Go.Proofs.YtgicfogmdfdjmaaGreatDoor
open Go.RowKit PA
end Go.Proofs.YtgicfogmdfdjmaaGreatDoor
namespace Go.Proofs.YtgicfogmdfdjmaaGreatDoor
open Go.RowKit PA
end Go.Proofs.YtgicfogmdfdjmaaGreatDoor
namespace Go.Proofs.YtgicfogmdfdjmaaGreatDoor
open Go.RowKit PA
theorem fJ:(Tryz.prog.info? 5).map (fun i=>(i.zero,i.size,i.bytes))=some (some (.int .u8 0),1,1):=by kernel_rfl
end Go.Proofs.YtgicfogmdfdjmaaGreatDoor
namespace Go.Proofs.YtgicfogmdfdjmaaGreatDoor
open Go.RowKit PA
theorem _root_.PA.Sat.Xd {W w:World} {A:aG} {E:Nat} {a:Option Addr} {n c:Nat} {xs:List Value} (h:Sat W w (sep (aK E 1 a n c xs) A)):∀b,a=some b→∀j u,xs[j]?=some u→w.cell? (b.add j)=some u:=by
 intro b hb j u hu
 obtain⟨g,e,hc⟩:=h.kD (fun e=>by rw[e] at hu;simp at hu)
 rw[hb] at e;cases e
 have:=hc j u hu
 unfold Addr.add
 split
 ·rename_i e;subst e;exact this
 ·simpa using this
end Go.Proofs.YtgicfogmdfdjmaaGreatDoor
namespace Go.Proofs.YtgicfogmdfdjmaaGreatDoor
open Go.RowKit PA
theorem Ir (n:Int) (w:World) (h1:-9223372036854775808≤n) (h2:n≤9223372036854775807):Calls Tryz.prog 133 #[.int .i64 n] w fun e w'=>e=.returned (.int .u64 (Lib.zigzag n:Nat))∧w=w':=by
 by_cases h0:n<0
 ·go_enter Tryz.func133,Tryz.ntmps133
  go_wp2
  go_ret
  exact⟨OV (by show 2*-(n+1)+1=_;unfold Lib.zigzag;rw[if_neg (by omega)];omega),rfl⟩
 ·go_enter Tryz.func133,Tryz.ntmps133
  go_wp2
  go_ret
  exact⟨OV (by show 2*n=_;unfold Lib.zigzag;rw[if_pos (by omega)];omega),rfl⟩
end Go.Proofs.YtgicfogmdfdjmaaGreatDoor
namespace Go.Proofs.YtgicfogmdfdjmaaGreatDoor
open Go.RowKit PA
set_option maxHeartbeats 1000000 in
theorem vJ {W w:World} {A:aG} (x:Nat) (hx:x<18446744073709551616) (h:Sat W w A):
 Calls Tryz.prog 132 #[.int .u64 (x:Nat)] w fun e w'=>∃a c,e=.returned (.slice a (Lib.uvarint x).length c)∧Sat W w' (sep (aK 5 1 a (Lib.uvarint x).length c ((Lib.uvarint x).map bv)) A):=by
 have HX:=ah hx
 clear hx
 go_enter Tryz.func132,Tryz.ntmps132
 go_wp2_with fail
 go_loopw [0,3] (fun nv ov wr=>∃(y:Nat) (pre:List UInt8) (a:Option Addr) (n c:Nat) (vs:List Value),nv=.int .u64 (y:Nat)∧ov=.slice a n c∧Hid (vs=pre.map bv∧n=pre.length∧y<18446744073709551616∧pre++Lib.uvarint y=Lib.uvarint x)∧Sat W wr (sep (aK 5 1 a n c vs) A)) (fun nv _ _=>(intOf nv).toNat)
 case atStart=>exact⟨x,[],none,0,0,[],rfl,rfl,ah ⟨rfl,rfl,HX.out,rfl⟩,h.cZ _ _⟩
 case round=>
  clear h
  obtain⟨y,pre,a,n,c,vs,rfl,rfl,HY,hS⟩:=hrel
  have hnb:n≤10:=by
   have h1:=congrArg List.length HY.out.2.2.2
   have h2:=Lib.uvarint_length64 HX.out
   rw[HY.out.2.1];simp at h1;omega
  have HN:=ah hnb
  clear hnb
  by_cases hy:127<y
  ·have hyI:(127:Int)<(y:Int):=by omega
   obtain⟨z,hz⟩:∃z:UInt8,z=(y % 128+128).toUInt8:=⟨_,rfl⟩
   have hzv:z.toNat=y % 128+128:=by rw[hz];simp;omega
   obtain⟨q,hq⟩:∃q:Nat,q=y / 128:=⟨_,rfl⟩
   have ajv:IntKind.u64.wrap ((y:Int) / 128)=(q:Int):=by rw[wraps_u64 _ (by omega) (by have:=HY.out.2.2.1;omega)];omega
   have HQ:=ah hq
   have hqy:q<y:=by omega
   have hB:=(hS.dD (.cells #[.int .u8 (128+(y:Int) % 128)] 5))
   clear hq
   have HZ:=ah hz
   have HZV:=ah hzv
   clear hz hzv hS
   go_wp2_with (at_builtin;(refine aJ rfl (.tmp 6) (.tmp 11) 129 rfl 5 1 1 (.int .u8 0) Tryz.underlying129 fJ rfl rfl hB rfl [.int .u8 (128+(y:Int) % 128)] rfl (by simp) (by intro b hb;cases hb;exact dS _ [_] _) (by simp[Value.oneCell']) (by have:=HN.out;omega) (by have:=HN.out;unfold maxLen;omega) ?_))
   intro a2 c2 w2 h2
   clear hB
   go_wp2_with fail
   go_roundw
   case rel=>
    refine⟨q,pre++[z],a2,n+1,c2,_,rfl,rfl,ah ⟨rfl,?_,by have:=HY.out.2.2.1;omega,?_⟩,?_⟩
    ·rw[dI,HY.out.2.1];rfl
    ·rw[List.append_assoc,←HY.out.2.2.2,Lib.uvarint_big (by omega:128≤y),←HZ.out,←HQ.out];rfl
    ·have e:(128+(y:Int) % 128)=((z.toNat:Nat):Int):=by have:=HZV.out;omega
     rw[e,HY.out.1] at h2
     rw[lS,List.map_cons,List.map_nil,bv];exact h2
   case measure=>simp[intOf];omega
  ·have hyB:decide ((127:Int)<(y:Int))=false:=by simp;omega
   have acL:=ah hy
   obtain⟨z,hz⟩:∃z:UInt8,z=y.toUInt8:=⟨_,rfl⟩
   have hzy:z.toNat=y:=by
    rw[hz];simp;omega
   have hor:((y:Int) % 256)=(z.toNat:Int):=by omega
   have hB:=(hS.dD (.cells #[.int .u8 (z.toNat:Int)] 5))
   have HZ:=ah hz
   clear hz hzy hy hS
   go_wp2_with (at_builtin;(refine aJ rfl (.tmp 15) (.tmp 18) 129 rfl 5 1 1 (.int .u8 0) Tryz.underlying129 fJ rfl rfl hB rfl [.int .u8 (z.toNat:Int)] rfl (by simp) (by intro b hb;cases hb;exact dS _ [_] _) (by simp[Value.oneCell']) (by have:=HN.out;omega) (by have:=HN.out;unfold maxLen;omega) ?_))
   intro a2 c2 w2 h2
   clear hB
   have e:Lib.uvarint x=pre++[z]:=by rw[←HY.out.2.2.2,Lib.uvarint_small (by have:=acL.out;omega),←HZ.out]
   have hl:n+1=(Lib.uvarint x).length:=by rw[e,dI,HY.out.2.1];rfl
   have h3:Sat W w2 (sep (aK 5 1 a2 (Lib.uvarint x).length c2 ((Lib.uvarint x).map bv)) A):=by
    rw[←hl,e,lS,List.map_cons,List.map_nil,bv,←HY.out.1];exact h2
   have HL:=ah hl
   clear e hl h2
   go_wp2_with fail
   go_ret
   exact⟨a2,c2,by rw[←HL.out];rfl,h3⟩
theorem iy {W w:World} {A:aG} (n:Int) (h1:-9223372036854775808≤n) (h2:n≤9223372036854775807) (h:Sat W w A):
 Calls Tryz.prog 93 #[.int .i64 n] w fun e w'=>∃a c,e=.returned (.slice a (PA.encI n).length c)∧Sat W w' (sep (aK 5 1 a (PA.encI n).length c ((PA.encI n).map bv)) A):=by
 have HZ:=ah (Lib.zigzag_lt h1 h2)
 go_enter Tryz.func93,Tryz.ntmps93
 go_wp2_with fail
 refine (Ir n _ h1 h2).mono ?_
 rintro e w2 ⟨rfl,rfl⟩
 go_wp2_with fail
 refine (vJ (Lib.zigzag n) HZ.out h).mono ?_
 rintro e w3 ⟨a,c,rfl,hS⟩
 go_wp2_with fail
 go_ret
 exact⟨a,c,rfl,hS⟩
theorem mg {W w:World} {A:aG} {I:Mem} (v:Value) (b:List UInt8) (h:Sat W w (sep (kn I) A)) (hv:fB.rel I [v] b) (hb:b.length≤1073741824):
 Calls Tryz.prog 95 #[v] w fun e w'=>∃a c,e=.returned (.slice a (encR b).length c)∧Sat W w' (sep (aK 5 1 a (encR b).length c ((encR b).map bv)) (sep (kn I) A)):=by
 obtain⟨a,c,rfl,hsw,hc⟩:=xK.1 hv
 obtain⟨n0,hn0⟩:=aC (b.length)
 rw[←hn0] at hb ⊢
 have hw1:IntKind.u64.wrap (n0:Int)=(n0:Nat):=wraps_u64 _ (by omega) (by omega)
 have HC:=ah hc
 have HN:=ah hn0
 have HB:=ah hb
 have HSW:=ah hsw
 clear hc hn0 hb hsw hv
 go_enter Tryz.func95,Tryz.ntmps95
 go_wp2_with fail
 refine (vJ n0 (by have:=HB.out;omega) h).mono ?_
 rintro e w2 ⟨a1,c1,rfl,hS⟩
 have hsrc:=vS HC.out hS.p1.ext
 obtain⟨m,hm⟩:=aC ((Lib.uvarint n0).length)
 obtain⟨vs,hvs⟩:=aC ((Lib.uvarint n0).map bv)
 have hmb:m≤10:=by rw[hm];exact Lib.uvarint_length64 (by have:=HB.out;omega)
 rw[←hm,←hvs] at hS
 rw[←hm]
 have HM:=ah hm
 have ZE:=ah hmb
 have HV:=ah hvs
 have gI:=ah hsrc
 clear hm hvs hmb hsrc h hw1
 go_wp2_with (at_builtin;(refine aJ rfl (.tmp 6) (.tmp 7) 129 rfl 5 1 1 (.int .u8 0) Tryz.underlying129 fJ rfl rfl hS rfl (b.map bv) (by rw[List.length_map,HN.out,Nat.mul_one]) (fun e=>by have:=HSW.out.2.2 e;have:=HSW.out.1;have:=HN.out;omega) gI.out (TJ b) (by have:=HB.out;have:=ZE.out;omega) (by have:=HB.out;have:=ZE.out;unfold maxLen;omega) ?_))
 intro a2 c2 w4 h4
 have hl:m+n0=(encR b).length:=by rw[encR,dI,←HN.out,←HM.out]
 have h5:Sat W w4 (sep (aK 5 1 a2 (encR b).length c2 ((encR b).map bv)) (sep (kn I) A)):=by
  rw[←hl,encR,lS,←HN.out,←HV.out];exact h4
 have HL:=ah hl
 clear hl h4 hS
 go_wp2_with fail
 go_ret
 exact⟨a2,c2,by rw[←HL.out];rfl,h5⟩
end Go.Proofs.YtgicfogmdfdjmaaGreatDoor
namespace PA
open Go Go.RowKit
structure nZ (w:World) (a:Option Addr) (n:Nat) (vs:List Value):Prop where
 len:vs.length=n*1
 nil:a=none→n=0
 src:∀b,a=some b→∀j u,vs[j]?=some u→w.cell? (b.add j)=some u
 one:∀u∈vs,u.oneCell'=true
theorem jh {W w:World} {A:aG} {E:Nat} {a:Option Addr} {n c:Nat} {bs:List UInt8} (h:Sat W w (sep (aK E 1 a n c (bs.map PA.bv)) A)):nZ w a n (bs.map PA.bv):=
 ⟨h.zW.1,fun e=>by have:=h.fA.2.2 e;have:=h.fA.1;omega,h.Xd,PA.TJ bs⟩
def gZ (l:List Int):List UInt8:=Lib.uvarint l.length++(l.map PA.encI).flatten
def vK (l:List Int) (k:Nat):List UInt8:=Lib.uvarint l.length++((l.take k).map PA.encI).flatten
theorem yD {l:List Int} {k:Nat} {r:Int} (h:l[k]?=some r):vK l (k+1)=vK l k++PA.encI r:=by
 unfold vK
 rw[List.take_add_one,h];simp
theorem Di (l:List Int):vK l l.length=gZ l:=by unfold vK gZ;rw[List.take_length]
theorem jX {r:Int} (h1:-9223372036854775808≤r) (h2:r≤9223372036854775807):(PA.encI r).length≤10:=by
 unfold PA.encI;exact Lib.uvarint_length64 (Lib.zigzag_lt h1 h2)
theorem Iu {l:List Int} (hn:l.length≤1048576) (hi:∀r∈l,-9223372036854775808≤r∧r≤9223372036854775807) (k:Nat):(vK l k).length≤10+10*k:=by
 induction k with
 | zero=>unfold vK;simp;exact Lib.uvarint_length64 (by omega)
 | succ k ih=>
  cases h:l[k]? with
  | none=>
   have e:vK l (k+1)=vK l k:=by unfold vK;rw[List.take_add_one,h];simp
   rw[e];omega
  | some r=>
   rw[yD h,dI]
   have:=jX (hi r (List.mem_iff_getElem?.2 ⟨k,h⟩)).1 (hi r (List.mem_iff_getElem?.2 ⟨k,h⟩)).2
   omega
end PA
namespace Go.Proofs.YtgicfogmdfdjmaaGreatDoor
open Go.RowKit PA
set_option maxHeartbeats 2000000 in
theorem Dj {W w:World} {A:aG} (a:Option Addr) (n c:Nat) (l:List Int) (hn:n=l.length) (hn2:l.length≤1048576) (hi:∀r∈l,-9223372036854775808≤r∧r≤9223372036854775807)
 (hc:∀w' B,Sat W w' (sep B A)→∀(k:Nat) r,l[k]?=some r→∃b o,a=some ⟨b,o,none⟩∧w'.cell? ⟨b,o+k,none⟩=some (.int .i64 r)) (h:Sat W w A):
 Calls Tryz.prog 168 #[.slice a n c] w fun e w'=>∃a' c',e=.returned (.slice a' (gZ l).length c')∧Sat W w' (sep (aK 5 1 a' (gZ l).length c' ((gZ l).map bv)) A):=by
 have HN:=ah (And.intro hn hn2)
 have HI:=ah hi
 have HC:=ah hc
 have hw1:IntKind.u64.wrap (n:Int)=(n:Nat):=wraps_u64 _ (by omega) (by omega)
 have H:=ah h
 obtain⟨E,hE⟩:=aC (gZ l)
 rw[←hE]
 have HE:=ah hE
 obtain⟨Po,iU⟩:∃P:Ending→World→Prop,P=fun e w'=>∃a' c',e=.returned (.slice a' E.length c')∧Sat W w' (sep (aK 5 1 a' E.length c' (E.map bv)) A):=⟨_,rfl⟩
 rw[←iU]
 have dZ:=ah iU
 have n63:(n:Int)≤9223372036854775807:=by omega
 clear hn hn2 hi hc h hE iU
 go_enter Tryz.func168,Tryz.ntmps168
 go_wp2_with fail
 refine (vJ n (by have:=HN.out;omega) H.out).mono ?_
 rintro e w2 ⟨a1,c1,rfl,h2⟩
 obtain⟨m,hm⟩:=aC ((Lib.uvarint n).length)
 obtain⟨vs,hvs⟩:=aC ((Lib.uvarint n).map bv)
 rw[←hm,←hvs] at h2
 rw[←hm]
 have HM:=ah (And.intro hm hvs)
 have H2:=ah h2
 clear hm hvs h2 H
 go_wp2_with fail
 go_loopw [3,4] (fun ov kv wr=>∃(k:Nat) (a':Option Addr) (n' c':Nat) (vs:List Value),ov=.slice a' n' c'∧kv=.int .i64 k∧k≤n∧Hid (n'=(vK l k).length∧vs=(vK l k).map bv)∧Sat W wr (sep (aK 5 1 a' n' c' vs) A)) (fun _ kv _=>n-(intOf kv).toNat)
 case atStart=>
  have e0:vK l 0=Lib.uvarint n:=by unfold vK;rw[HN.out.1];simp
  exact⟨0,a1,m,c1,vs,rfl,rfl,by omega,ah ⟨by rw[HM.out.1,e0],by rw[HM.out.2,e0]⟩,H2.out⟩
 case round=>
  obtain⟨k,a',n',c',vs',rfl,rfl,hk,HV,hS⟩:=hrel
  clear H2
  by_cases hlt:k<n
  ·have hltz:(k:Int)<(n:Int):=by omega
   obtain⟨r,hr⟩:∃r,l[k]?=some r:=⟨_,List.getElem?_eq_getElem (by have:=HN.out;omega)⟩
   obtain⟨b,o,rfl,j0⟩:=HC.out _ _ hS k r hr
   have HR:=ah (And.intro hr hlt)
   have HS:=ah hS
   clear hr hlt hS hk
   go_wp2_with fail
   refine (iy r (HI.out r (List.mem_iff_getElem?.2 ⟨k,HR.out.1⟩)).1 (HI.out r (List.mem_iff_getElem?.2 ⟨k,HR.out.1⟩)).2 HS.out).mono ?_
   rintro e w3 ⟨a2,c2,rfl,h3⟩
   have ku:=ah (jh h3)
   have h4:=h3.drop
   have hb1:n'≤10+10*k:=by rw[HV.out.1];exact Iu HN.out.2 HI.out k
   have hb2:(PA.encI r).length≤10:=jX (HI.out r (List.mem_iff_getElem?.2 ⟨k,HR.out.1⟩)).1 (HI.out r (List.mem_iff_getElem?.2 ⟨k,HR.out.1⟩)).2
   have hkb:k≤1048576:=by have:=HN.out;have:=HR.out.2;omega
   obtain⟨m2,hm2⟩:=aC ((PA.encI r).length)
   obtain⟨us,hus⟩:=aC ((PA.encI r).map bv)
   rw[←hm2,←hus] at ku
   rw[←hm2] at hb2 ⊢
   have HB:=ah (And.intro hb1 (And.intro hb2 hkb))
   have HU:=ah (And.intro hm2 hus)
   clear h3 hb1 hb2 hkb hm2 hus j0 HS
   go_wp2_with (at_builtin;(refine aJ rfl (.tmp 15) (.tmp 20) 129 rfl 5 1 1 (.int .u8 0) Tryz.underlying129 fJ rfl rfl h4 rfl us ku.out.len ku.out.nil ku.out.src ku.out.one (by have:=HB.out;omega) (by have:=HB.out;unfold maxLen;omega) ?_))
   intro a4 c4 w5 h5
   have H5:=ah h5
   clear h4 h5 ku
   go_wp2_with fail
   go_roundw
   case rel=>
    refine⟨k+1,a4,n'+m2,c4,_,rfl,by go_num,by have:=HR.out.2;omega,ah ⟨?_,?_⟩,H5.out⟩
    ·rw[yD HR.out.1,dI,HV.out.1,HU.out.1]
    ·rw[yD HR.out.1,lS,HV.out.2,HU.out.2]
   case measure=>simp[intOf];have:=HR.out.2;omega
  ·obtain rfl:k=n:=by omega
   have hE2:E=vK l k:=by rw[HE.out,HN.out.1,Di]
   have HF:Hid (n'=E.length∧vs'=E.map bv):=ah (by rw[hE2];exact HV.out)
   have HS:=ah hS
   clear hS hE2 HV
   go_wp2
   rw[dZ.out]
   exact⟨a',c',by rw[←HF.out.1];try rfl,by rw[←HF.out.1,←HF.out.2];exact HS.out⟩
end Go.Proofs.YtgicfogmdfdjmaaGreatDoor
namespace PA
open Go
theorem YQ {n:Int} (h:n.natAbs≤1099511627776):okR ⟨n,1⟩=true:=mY n 1 (by omega) (by omega) h (by simp)
theorem Dt {n:Int} (h1:-8≤n) (h2:n≤8):jg ⟨n,1⟩=true:=by
 unfold jg
 rw[YQ (by omega),decide_eq_true (by show n≤1073741824;omega),decide_eq_true (by show -1073741824≤n;omega)]
 rfl
theorem VX {x:Iv} (h:Gl x):kC x=true:=by
 obtain⟨h1,h2,h3,h4,h5⟩:=h
 obtain⟨ln,ld,hn,hd,lo,ho,li,hi⟩:=x
 simp only at h1 h2 h3 h4 h5
 subst h3 h4
 have e1:∀hn hd lo ho li hi,jg (Iv.lw ⟨ln,1,hn,hd,lo,ho,li,hi⟩)=true:=fun _ _ _ _ _ _=>Dt (n:=ln) (by omega) (by omega)
 rcases h5 with ⟨rfl,rfl,rfl,rfl⟩|⟨rfl,rfl,h6,h7⟩
 ·unfold kC;rw[e1];simp[zR,Iv.up]
 ·have e2:jg (Iv.up ⟨ln,1,hn,1,lo,ho,false,false⟩)=true:=Dt (n:=hn) (by omega) (by omega)
  have e3:eqR (Iv.lw ⟨ln,1,hn,1,lo,ho,false,false⟩) (Iv.up ⟨ln,1,hn,1,lo,ho,false,false⟩)=false:=by
   unfold eqR Iv.lw Iv.up
   rw[show (ln==hn)=false by simpa using (by omega:¬ln=hn)];rfl
  have e4:QS (Iv.lw ⟨ln,1,hn,1,lo,ho,false,false⟩) (Iv.up ⟨ln,1,hn,1,lo,ho,false,false⟩)=true:=by
   unfold QS Iv.lw Iv.up
   exact decide_eq_true (show ln*1<hn*1 by omega)
  unfold kC;rw[e1,e2,e3,e4];simp
theorem YR {x:Iv} (h:kC x=true):Ae [x]=true:=by
 have e:Cc [x] 1=true:=by rw[yA,FC];simp[vG,h]
 unfold Ae WL
 rw[show ([x]:List Iv).length=1 from rfl,e];simp
theorem jY {f:Fm} (h:oN f):Fm.whole Ae f=true∧f.size=1∧f.deep=1∧f.iT=[f]∧f.parts=[f]:=by
 obtain⟨n,h1,h2,rfl⟩:=h
 refine⟨?_,by simp[Fm.size,Fm.sizes],by simp[Fm.deep,Fm.fG],by simp[Fm.iT],by simp[Fm.parts,Fm.op]⟩
 simp[Fm.whole,Fm.formed,Fm.dW];omega
theorem wZ {f:Fm} (h:Az f):Fm.whole Ae f=true∧f.size=1∧f.deep=1∧f.iT=[f]∧f.parts=[f]:=by
 obtain⟨n,x,h1,h2,hx,rfl⟩:=h
 refine⟨?_,by simp[Fm.size,Fm.sizes],by simp[Fm.deep,Fm.fG],by simp[Fm.iT],by simp[Fm.parts,Fm.op]⟩
 have:=YR (VX hx)
 simp[Fm.whole,Fm.formed,Fm.dW,this];omega
structure FmG (f:Fm):Prop where
 wh:Fm.whole Ae f=true
 sz:f.size≤4
 dp:f.deep≤3
theorem VY {f:Fm} (h:dh f):FmG f:=by
 cases h with
 | c h=>obtain⟨a,b,c,-⟩:=jY h;exact⟨a,by omega,by omega⟩
 | v h=>obtain⟨a,b,c,-⟩:=wZ h;exact⟨a,by omega,by omega⟩
 | OE h g=>obtain⟨a,b,c,-⟩:=jY h;obtain⟨a',b',c',-⟩:=wZ g;exact⟨by simp[Fm.whole,Fm.formed,Fm.dW,a,a'],by simp[Fm.size,Fm.sizes,b,b'],by simp[Fm.deep,Fm.fG,c,c']⟩
 | Xg h g=>obtain⟨a,b,c,-⟩:=jY h;obtain⟨a',b',c',-⟩:=wZ g;exact⟨by simp[Fm.whole,Fm.formed,Fm.dW,a,a'],by simp[Fm.size,Fm.sizes,b,b'],by simp[Fm.deep,Fm.fG,c,c']⟩
 | ZO h g=>obtain⟨a,b,c,-⟩:=jY h;obtain⟨a',b',c',-⟩:=jY g;exact⟨by simp[Fm.whole,Fm.formed,Fm.dW,a,a'],by simp[Fm.size,Fm.sizes,b,b'],by simp[Fm.deep,Fm.fG,c,c']⟩
 | ZP h g=>obtain⟨a,b,c,-⟩:=jY h;obtain⟨a',b',c',-⟩:=jY g;exact⟨by simp[Fm.whole,Fm.formed,Fm.dW,a,a'],by simp[Fm.size,Fm.sizes,b,b'],by simp[Fm.deep,Fm.fG,c,c']⟩
 | part h=>obtain⟨a,b,c,-⟩:=jY h;exact⟨by simp[Fm.whole,Fm.formed,Fm.dW,a],by simp[Fm.size,Fm.sizes,b],by simp[Fm.deep,Fm.fG,c]⟩
 | ZQ h g=>obtain⟨a,b,c,-⟩:=jY h;obtain⟨a',b',c',-⟩:=wZ g;exact⟨by simp[Fm.whole,Fm.formed,Fm.dW,a,a'],by simp[Fm.size,Fm.sizes,b,b'],by simp[Fm.deep,Fm.fG,c,c']⟩
structure AltG (n:Nat) (f:Fm):Prop where
 wh:Fm.dW Ae f.parts=true
 sz:Fm.sizes f.parts≤n
 dp:Fm.fG f.parts≤3
theorem AltG.up {m n:Nat} {f:Fm} (h:AltG m f) (hmn:m≤n):AltG n f:=⟨h.wh,Nat.le_trans h.sz hmn,h.dp⟩
theorem zy {i:Nat} {r:List Int} (h:kY i r):r.length≤2∧qE r i=true:=by
 rcases h with rfl|⟨j,hj,rfl⟩|⟨rfl,rfl⟩
 ·exact⟨by simp,rfl⟩
 ·refine⟨by simp,?_⟩
  unfold qE
  rw[show ([(j:Int)]:List Int).length=1 from rfl,vH,Ci]
  simp[qC];omega
 ·exact⟨by simp,by decide⟩
end PA

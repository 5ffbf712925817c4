/- Part of a proof. -/
import Derived.Test.YtgicfogmdfdjmaaGreatDoorGTitleOwners2
import Derived.Lib.AppendStr
import Derived.BigQuiet
import Derived.Deep.QuietTactic
import Derived.LoopTactic
import Derived.OpenShut
import Derived.Laws.BytesString
import Derived.RangeFuncSeq
import Derived.RangeFuncRecord
import Derived.RangeFuncIn
import Derived.OwnWalkIn
import Derived.RangeFuncBound
import Derived.RangeFuncCalls
import Derived.RangeFuncLeaves
import Derived.TacticsInMore
import Derived.LoopNIn
import Derived.LoopIn
import Derived.Test.YtgicfogmdfdjmaaGreatDoorSort
namespace PA
open Go Go.RowKit
section
variable {P:Program} {ops:Array Oper} {Q:Exit→Act→World→Prop} {S:World→Prop} {W:World}
theorem iM {o:Oper} {a:Act} {Pre:aH} {Post:Value→aH} (hg:Region.wanted o (yielded ops a.tmps)=true) (f:FuncId) (args:Array Value) (hr:∀w,(execOp a.eval o).run P w=.ok (.enter f args) w)
 (hc:∀(w:World) (A:aH),Sat W w (sep Pre A)→Calls P f args w fun e w'=>∃v,e=.returned v∧Sat W w' (sep (Post v) A)):gX P ops W o a Pre Post:=
 ⟨hg,fun w A h=>.inr ⟨f,args,w,hr w,hc w A h⟩⟩
theorem jT {o:Oper} {a:Act} {ob:Obj} (hg:Region.wanted o (yielded ops a.tmps)=true) (hr:∀w,(execOp a.eval o).run P w=.ok (.value (.pointer (some ⟨w.heap.size,0,none⟩))) (w.alloc ob)):
 gX P ops W o a emp (fun v=>ex fun g:Nat=>sep (fact (v=.pointer (some ⟨g,0,none⟩))) (blk g ob)):=
 ⟨hg,fun w A h=>.inl ⟨_,_,hr w,by
  rw[bW] at h
  rw[dG,Sat.ex]
  exact⟨w.heap.size,by rw[aj];exact Sat.fact.2 ⟨rfl,h.alloc ob⟩⟩⟩⟩
def uV (Pre Mid Post:aH) (v1 v2:Value) (Cm:List Value):List Value→aH
 | []=>Pre
 | [u]=>sep (fact (u=v1)) Mid
 | u::x::r=>sep (fact (u=v1∧x=v2∧r=Cm.take r.length)) Post
theorem rM {Pre Mid Post:aH} {v1 v2:Value} {Cm:List Value} {a0:Act} {i j:Nat} {js:List Nat} {oi oj:Oper} {di:Option Tmp} (hdi:aY ops i=di) (hoi:ops[i]?=some oi) (hsi:∀cs b,oi.op≠.select cs b) (hoj:ops[j]?=some oj) (hsj:∀cs b,oj.op≠.select cs b)
 (hb:((Region.before ops).getD j 0).testBit i=true) (h1:gX P ops W oi a0 Pre (fun v=>sep (fact (v=v1)) Mid)) (h2:gX P ops W oj (a0.put di v1) Mid (fun v=>sep (fact (v=v2)) Post))
 (hw2:∀v,Region.wanted oj (yielded ops (a0.put di v).tmps)=true) (hpl:js.all (lU ops)=true) (hF:uX P ops ((a0.put di v1).put (aY ops j) v2) js Cm):
 sK P ops W a0 (uV Pre Mid Post v1 v2 Cm) [] [(i,[]),(j,js)]:=by
 subst hdi
 refine⟨⟨oi,hoi,hsi,h1⟩,fun y hy=>?_,fun j hj=>(by cases hj),fun v w B h=>⟨[],trivial,h⟩,fun v us hus=>?_⟩
 ·rw[List.mem_singleton.1 hy];exact hb
 ·have ab8:us=[]:=List.eq_nil_of_length_eq_zero hus
  subst ab8
  refine⟨⟨oj,hoj,hsj,hw2 v,fun w A hS=>?_⟩,fun y hy=>(by cases hy),fun k hk=>List.all_eq_true.1 hpl k hk,fun v' w B h=>?_,fun _ _ _=>trivial⟩
  ·have hS':Sat W w (sep (sep (fact (v=v1)) Mid) A):=hS
   rw[aj] at hS'
   obtain⟨rfl,hS2⟩:=Sat.fact.1 hS'
   have conv:∀(v':Value) (w':World),Sat W w' (sep (sep (fact (v'=v2)) Post) A)→Sat W w' (sep (uV Pre Mid Post v v2 Cm ([v]++[v'])) A):=fun v' w' h=>by
    show Sat W w' (sep (sep (fact (v=v∧v'=v2∧[]=Cm.take ([]:List Value).length)) Post) A)
    rw[aj] at h ⊢
    obtain⟨h1,h2⟩:=Sat.fact.1 h
    exact Sat.fact.2 ⟨⟨rfl,h1,by simp⟩,h2⟩
   rcases h2.2 w A hS2 with ⟨v',w',h3,h4⟩|⟨f,args,w1,h3,h4⟩
   ·exact .inl ⟨v',w',h3,conv v' w' h4⟩
   ·refine .inr ⟨f,args,w1,h3,h4.mono ?_⟩
    rintro e w' ⟨v',rfl,h5⟩
    exact⟨v',rfl,conv v' w' h5⟩
  ·have h':Sat W w (sep (sep (fact (v=v1∧v'=v2∧[]=Cm.take ([]:List Value).length)) Post) B):=h
   rw[aj] at h'
   obtain⟨⟨rfl,rfl,-⟩,h3⟩:=Sat.fact.1 h'
   refine⟨Cm,hF,?_⟩
   show Sat W w (sep (sep (fact (v=v∧v'=v'∧Cm=Cm.take Cm.length)) Post) B)
   rw[aj]
   exact Sat.fact.2 ⟨⟨rfl,rfl,by rw[List.take_length]⟩,h3⟩
theorem rJ {Pre Mid Post:aH} {v1 v2:Value} {Cm:List Value} {A:aH} {w:World} {i j:Nat} {js:List Nat} {dn:List (Nat×Value)} (hdn:dn.map (·.1)=i::j::js) (hl:Cm.length=js.length)
 (h:Sat W w (sep (uV Pre Mid Post v1 v2 Cm (dn.map (·.2))) A)):dn=(i,v1)::(j,v2)::js.zip Cm∧Sat W w (sep Post A):=by
 match dn,hdn with
 | (i',u)::(j',x)::dn,hdn=>
  simp only[List.map_cons,List.cons.injEq] at hdn
  obtain⟨rfl,rfl,hj⟩:=hdn
  have h':Sat W w (sep (sep (fact (u=v1∧x=v2∧dn.map (·.2)=Cm.take (dn.map (·.2)).length)) Post) A):=h
  rw[aj] at h'
  obtain⟨⟨rfl,rfl,h2⟩,h3⟩:=Sat.fact.1 h'
  refine⟨?_,h3⟩
  have hlen:(dn.map (·.2)).length=Cm.length:=by rw[hl,←hj];simp
  rw[hlen,List.take_length] at h2
  rw[←h2,←hj]
  congr 1
  congr 1
  clear h2 hlen h h' h3 hj hl
  induction dn with
  | nil=>rfl
  | cons z dn ih=>simp[←ih]
end
end PA
namespace PA
section
variable {α:Type}
def sF (f:Nat→α) (i j:Nat):Nat→α:=fun k=>if k=i then f j else if k=j then f i else f k
theorem Ht (f:Nat→α) (i j:Nat):sF f i j=sF f j i:=by
 funext k
 unfold sF
 by_cases h1:k=i
 ·by_cases h2:k=j
  ·rw[if_pos h1,if_pos h2,←h1,←h2]
  ·rw[if_pos h1,if_neg h2,if_pos h1]
 ·rw[if_neg h1]
  by_cases h2:k=j
  ·rw[if_pos h2,if_pos h2]
  ·rw[if_neg h2,if_neg h2,if_neg h1]
inductive Sw (a b:Nat) (f:Nat→α):(Nat→α)→Prop where
 | refl:Sw a b f f
 | step (g:Nat→α) (i j:Nat):Sw a b f g→a≤i→i<b→a≤j→j<b→Sw a b f (sF g i j)
theorem Sw.trans {a b:Nat} {f g h:Nat→α} (h1:Sw a b f g) (h2:Sw a b g h):Sw a b f h:=by
 induction h2 with
 | refl=>exact h1
 | step g' i j _ p1 p2 p3 p4 ih=>exact .step g' i j ih p1 p2 p3 p4
theorem Sw.mono {a b a' b':Nat} {f g:Nat→α} (h1:a'≤a) (h2:b≤b') (h:Sw a b f g):Sw a' b' f g:=by
 induction h with
 | refl=>exact .refl
 | step g' i j _ p1 p2 p3 p4 ih=>exact .step g' i j ih (by omega) (by omega) (by omega) (by omega)
theorem Sw.out {a b:Nat} {f g:Nat→α} (h:Sw a b f g) {k:Nat} (hk:k<a∨b≤k):g k=f k:=by
 induction h with
 | refl=>rfl
 | step g' i j _ p1 p2 p3 p4 ih=>
  unfold sF
  rw[if_neg (by omega),if_neg (by omega)]
  exact ih
theorem Sw.at {a b:Nat} {f g:Nat→α} (h:Sw a b f g):∀k,a≤k→k<b→∃j,a≤j∧j<b∧g k=f j:=by
 induction h with
 | refl=>exact fun k h1 h2=>⟨k,h1,h2,rfl⟩
 | step g' i j _ p1 p2 p3 p4 ih=>
  intro k h1 h2
  unfold sF
  split
  ·exact ih j p3 p4
  ·split
   ·exact ih i p1 p2
   ·exact ih k h1 h2
theorem QS (n:Nat) (f:Nat→α) (i j:Nat) (hi:i<n) (hj:j<n):((List.range n).map (sF f i j)).Perm ((List.range n).map f):=by
 have e:(List.range n).map (sF f i j)=(((List.range n).map f).set i (((List.range n).map f)[j]'(by simpa using hj))).set j (((List.range n).map f)[i]'(by simpa using hi)):=by
  apply List.ext_getElem
  ·simp
  ·intro k h1 h2
   simp only[List.getElem_map,List.getElem_range,List.getElem_set,sF]
   by_cases e1:k=j
   ·subst e1
    by_cases e2:k=i
    ·subst e2;simp
    ·simp[e2]
   ·by_cases e2:k=i
    ·subst e2;simp[Ne.symm e1]
    ·simp[e1,e2,Ne.symm e1,Ne.symm e2]
 rw[e]
 exact List.set_set_perm _ _
theorem Sw.perm {n:Nat} {f g:Nat→α} (h:Sw 0 n f g):((List.range n).map g).Perm ((List.range n).map f):=by
 induction h with
 | refl=>exact .refl _
 | step g' i j _ p1 p2 p3 p4 ih=>exact (QS n g' i j p2 p4).trans ih
def JW (f:Nat→α) (a b:Nat):Nat→Nat→α
 | 0=>f
 | n+1=>sF (JW f a b n) (a+n) (b+n)
theorem vG (f:Nat→α) (a b:Nat):∀n,a+n≤b→∀k,JW f a b n k=if a≤k∧k<a+n then f (b+(k-a)) else if b≤k∧k<b+n then f (a+(k-b)) else f k
 | 0,h,k=>by rw[JW,if_neg (by omega),if_neg (by omega)]
 | n+1,h,k=>by
  have ih:=vG f a b n (by omega)
  have e0:JW f a b (n+1) k=if k=a+n then JW f a b n (b+n) else if k=b+n then JW f a b n (a+n) else JW f a b n k:=rfl
  rw[e0,ih k,ih (a+n),ih (b+n)]
  (repeat' split)<;>first|rfl|(exfalso;omega)|(congr 1;omega)
theorem E5 (f:Nat→α) (a b lo hi:Nat) (h1:lo≤a) (h2:lo≤b):∀n,a+n≤hi→b+n≤hi→Sw lo hi f (JW f a b n)
 | 0,_,_=>.refl
 | n+1,h3,h4=>.step _ _ _ (E5 f a b lo hi h1 h2 n (by omega) (by omega)) (by omega) (by omega) (by omega) (by omega)
def zf (f:Nat→α) (a m b:Nat) (g:Nat→α):Prop:=(∀t,t<b-m→g (a+t)=f (m+t))∧(∀t,t<m-a→g (a+(b-m)+t)=f (a+t))∧∀k,k<a∨b≤k→g k=f k
structure zM (f:Nat→α) (a m b i j:Nat) (g:Nat→α):Prop where
 hi:i≤m-a
 hj:j≤b-m
 ok:∀T:Nat→α,zf f a m b T→(∀k,k<m-i∨m+j≤k→g k=T k)∧(∀t,t<j→T (m-i+t)=g (m+t))∧(∀t,t<i→T (m-i+j+t)=g (m-i+t))
 sw:Sw a b f g
theorem zM.start (f:Nat→α) (a m b:Nat) (h1:a≤m) (h2:m≤b):zM f a m b (m-a) (b-m) f:=by
 refine⟨Nat.le_refl _,Nat.le_refl _,fun T hT=>⟨fun k hk=>(hT.2.2 k (by omega)).symm,fun t ht=>?_,fun t ht=>?_⟩,.refl⟩
 ·rw[←hT.1 t ht];congr 1;omega
 ·rw[show m-(m-a)+(b-m)+t=a+(b-m)+t by omega,hT.2.1 t ht];congr 1;omega
theorem zM.big {f g:Nat→α} {a m b i j:Nat} (h:zM f a m b i j g) (h1:a≤m) (h2:m≤b) (hij:j<i):zM f a m b (i-j) j (JW g (m-i) m j):=by
 have hi:=h.hi
 have hj:=h.hj
 have hs:=vG g (m-i) m j (by omega)
 refine⟨by omega,hj,fun T hT=>?_,h.sw.trans (E5 g (m-i) m a b (by omega) (by omega) j (by omega) (by omega))⟩
 obtain⟨o1,o2,o3⟩:=h.ok T hT
 refine⟨fun k hk=>?_,fun t ht=>?_,fun t ht=>?_⟩
 ·rw[hs k]
  by_cases e1:m-i≤k∧k<m-i+j
  ·rw[if_pos e1,←o2 (k-(m-i)) (by omega)];congr 1;omega
  ·rw[if_neg e1,if_neg (by omega)];exact o1 k (by omega)
 ·rw[hs (m+t),if_neg (by omega),if_pos (by omega)]
  have:=o3 t (by omega)
  rw[show m-(i-j)+t=m-i+j+t by omega,this];congr 1;omega
 ·rw[hs,if_neg (by omega),if_neg (by omega)]
  have:=o3 (j+t) (by omega)
  rw[show m-(i-j)+j+t=m-i+j+(j+t) by omega,this];congr 1;omega
theorem zM.small {f g:Nat→α} {a m b i j:Nat} (h:zM f a m b i j g) (h1:a≤m) (h2:m≤b) (hij:i<j):zM f a m b i (j-i) (JW g (m-i) (m+j-i) i):=by
 have hi:=h.hi
 have hj:=h.hj
 have hs:=vG g (m-i) (m+j-i) i (by omega)
 refine⟨hi,by omega,fun T hT=>?_,h.sw.trans (E5 g (m-i) (m+j-i) a b (by omega) (by omega) i (by omega) (by omega))⟩
 obtain⟨o1,o2,o3⟩:=h.ok T hT
 refine⟨fun k hk=>?_,fun t ht=>?_,fun t ht=>?_⟩
 ·rw[hs k]
  by_cases e1:m+j-i≤k∧k<m+j-i+i
  ·rw[if_neg (by omega),if_pos e1,←o3 (k-(m+j-i)) (by omega)];congr 1;omega
  ·rw[if_neg (by omega),if_neg e1];exact o1 k (by omega)
 ·rw[hs (m+t),if_neg (by omega),if_neg (by omega)]
  exact o2 t (by omega)
 ·rw[hs,if_pos (by omega)]
  have:=o2 (j-i+t) (by omega)
  rw[show m-i+(j-i)+t=m-i+(j-i+t) by omega,this];congr 1;omega
theorem zM.done {f g:Nat→α} {a m b i:Nat} (h:zM f a m b i i g) (h1:a≤m) (h2:m≤b):zf f a m b (JW g (m-i) m i)∧Sw a b f (JW g (m-i) m i):=by
 have hi:=h.hi
 have hj:=h.hj
 have hs:=vG g (m-i) m i (by omega)
 refine⟨?_,h.sw.trans (E5 g (m-i) m a b (by omega) (by omega) i (by omega) (by omega))⟩
 have hex:∃T,zf f a m b T:=⟨fun k=>if k<a∨b≤k then f k else if k<a+(b-m) then f (m+(k-a)) else f (a+(k-(a+(b-m)))),fun t ht=>by
  simp only[];rw[if_neg (by omega),if_pos (by omega)];congr 1;omega,fun t ht=>by
  simp only[];rw[if_neg (by omega),if_neg (by omega)];congr 1;omega,fun k hk=>by simp only[];rw[if_pos hk]⟩
 obtain⟨T,hT⟩:=hex
 obtain⟨o1,o2,o3⟩:=h.ok T hT
 have e:JW g (m-i) m i=T:=by
  funext k
  rw[hs k]
  by_cases e1:m-i≤k∧k<m-i+i
  ·rw[if_pos e1,←o2 (k-(m-i)) (by omega)];congr 1;omega
  ·rw[if_neg e1]
   by_cases e2:m≤k∧k<m+i
   ·rw[if_pos e2]
    have:=o3 (k-m) (by omega)
    rw[←this];congr 1;omega
   ·rw[if_neg e2];exact o1 k (by omega)
 rw[e];exact hT
variable (c:α→α→Int)
def dO (a b:Nat) (f:Nat→α):Prop:=∀i j,a≤i→i<j→j<b→c (f i) (f j)≤0
structure Total (c:α→α→Int):Prop where
 trans:∀x y z,c x y≤0→c y z≤0→c x z≤0
 flip:∀x y,c y x=-c x y
variable {c}
theorem dO.sub {a b a' b':Nat} {f:Nat→α} (h:dO c a b f) (h1:a≤a') (h2:b'≤b):dO c a' b' f:=fun i j p1 p2 p3=>h i j (by omega) p2 (by omega)
theorem dO.congr {a b:Nat} {f g:Nat→α} (h:dO c a b f) (e:∀k,a≤k→k<b→g k=f k):dO c a b g:=fun i j p1 p2 p3=>by rw[e i p1 (by omega),e j (by omega) p3];exact h i j p1 p2 p3
theorem dO.list {n:Nat} {f:Nat→α} (h:dO c 0 n f):((List.range n).map f).Pairwise fun x y=>c x y≤0:=by
 rw[List.pairwise_map]
 refine List.Pairwise.imp_of_mem (R:=fun i j=>i<j) ?_ List.pairwise_lt_range
 intro i j _ hj hij
 exact h i j (by omega) hij (by simpa using hj)
theorem QT {a j b:Nat} {f:Nat→α} (hT:Total c) (h1:dO c a j f) (h2:dO c j b f) (h3:∀p q,a≤p→p<j→j<q→q<b→c (f p) (f q)≤0) (hj:j=a∨0≤c (f j) (f (j-1))) (hab:a≤j) (hjb:j<b):dO c a b f:=by
 intro p q hp hpq hq
 rcases Nat.lt_or_ge q j with e|e
 ·exact h1 p q hp hpq e
 ·rcases Nat.lt_or_ge p j with e2|e2
  ·rcases Nat.lt_or_ge j q with e3|e3
   ·exact h3 p q hp e2 e3 hq
   ·obtain rfl:q=j:=by omega
    rcases hj with e4|e4
    ·omega
    ·have hlast:c (f (q-1)) (f q)≤0:=by have:=hT.flip (f (q-1)) (f q);omega
     rcases Nat.lt_or_ge p (q-1) with e5|e5
     ·exact hT.trans _ _ _ (h1 p (q-1) hp e5 (by omega)) hlast
     ·obtain rfl:p=q-1:=by omega
      exact hlast
  ·exact h2 p q e2 hpq hq
theorem QU {a m b:Nat} {f:Nat→α} (h1:dO c a m f) (h2:dO c m b f) (h3:∀p q,a≤p→p<m→m≤q→q<b→c (f p) (f q)≤0):dO c a b f:=by
 intro p q hp hpq hq
 rcases Nat.lt_or_ge q m with e|e
 ·exact h1 p q hp hpq e
 ·rcases Nat.lt_or_ge p m with e2|e2
  ·exact h3 p q hp e2 e hq
  ·exact h2 p q e2 hpq hq
theorem JY {a mid b:Nat} {g g1 g2:Nat→α} (hx:∀p q,a≤p→p<mid→mid≤q→q<b→c (g p) (g q)≤0)
 (s1:Sw a mid g g1) (k1:dO c a mid g1) (s2:Sw mid b g1 g2) (k2:dO c mid b g2):dO c a b g2:=by
 refine QU (m:=mid) (k1.congr fun k p1 p2=>s2.out (.inl p2)) k2 fun p q p1 p2 p3 p4=>?_
 obtain⟨i,i1,i2,e1⟩:=s1.at p p1 p2
 obtain⟨j,j1,j2,e2⟩:=s2.at q p3 p4
 rw[s2.out (.inl p2),e1,e2,s1.out (.inr j1)]
 exact hx i j i1 i2 j1 j2
theorem Oa {a m b mid start en:Nat} {f g:Nat→α} (hT:Total c) (h1:dO c a m f) (h2:dO c m b f) (ha:a≤start) (hs:start≤m) (he:m≤en) (hb:en≤b) (hsm:start≤mid) (hm:en+start=mid+m)
 (hlo:start=a∨en=b∨c (f (start-1)) (f en)≤0) (hup:start=m∨en=m∨c (f (en-1)) (f start)≤0) (hg:zf f start m en g):
 dO c a start g∧dO c start mid g∧dO c mid en g∧dO c en b g∧∀p q,a≤p→p<mid→mid≤q→q<b→c (g p) (g q)≤0:=by
 obtain⟨g1,g2,g3⟩:=hg
 have e1:∀k,k<start→g k=f k:=fun k hk=>g3 k (.inl hk)
 have e2:∀k,start≤k→k<mid→g k=f (m+(k-start)):=fun k p1 p2=>by rw[←g1 (k-start) (by omega)];congr 1;omega
 have e3:∀k,mid≤k→k<en→g k=f (start+(k-mid)):=fun k p1 p2=>by rw[←g2 (k-mid) (by omega)];congr 1;omega
 have e4:∀k,en≤k→g k=f k:=fun k hk=>g3 k (.inr hk)
 have le:∀{x y:α},x=y→c x y≤0:=fun {x y} e=>by subst e;have:=hT.flip x x;omega
 refine⟨fun p q p1 p2 p3=>?_,fun p q p1 p2 p3=>?_,fun p q p1 p2 p3=>?_,fun p q p1 p2 p3=>?_,fun p q p1 p2 p3 p4=>?_⟩
 ·rw[e1 p (by omega),e1 q p3];exact h1 p q p1 p2 (by omega)
 ·rw[e2 p p1 (by omega),e2 q (by omega) p3];exact h2 _ _ (by omega) (by omega) (by omega)
 ·rw[e3 p p1 (by omega),e3 q (by omega) p3];exact h1 _ _ (by omega) (by omega) (by omega)
 ·rw[e4 p p1,e4 q (by omega)];exact h2 _ _ (by omega) p2 p3
 ·have QV:∀i j,a≤i→i≤j→j<m→c (f i) (f j)≤0:=fun i j q1 q2 q3=>by
   rcases Nat.lt_or_ge i j with e|e
   ·exact h1 i j q1 e q3
   ·exact le (by congr 1;omega)
  have QW:∀i j,m≤i→i≤j→j<b→c (f i) (f j)≤0:=fun i j q1 q2 q3=>by
   rcases Nat.lt_or_ge i j with e|e
   ·exact h2 i j q1 e q3
   ·exact le (by congr 1;omega)
  rcases Nat.lt_or_ge p start with x|x
  ·rw[e1 p x]
   rcases Nat.lt_or_ge q en with y|y
   ·rw[e3 q p3 y];exact QV _ _ p1 (by omega) (by omega)
   ·rw[e4 q y]
    rcases hlo with z|z|z
    ·omega
    ·omega
    ·exact hT.trans _ _ _ (QV p (start-1) p1 (by omega) (by omega)) (hT.trans _ _ _ z (QW en q (by omega) y p4))
  ·rw[e2 p x p2]
   rcases Nat.lt_or_ge q en with y|y
   ·rw[e3 q p3 y]
    rcases hup with z|z|z
    ·omega
    ·omega
    ·exact hT.trans _ _ _ (QW _ (en-1) (by omega) (by omega) (by omega)) (hT.trans _ _ _ z (QV start _ ha (by omega) (by omega)))
   ·rw[e4 q y];exact QW _ _ (by omega) (by omega) p4
theorem Qu {a b i:Nat} {f g:Nat→α} (hT:Total c) (h2:dO c (a+1) b f) (ha:a+1≤i) (hi:i≤b) (hlo:∀k,a+1≤k→k<i→c (f k) (f a)≤0) (hup:∀k,i≤k→k<b→0≤c (f k) (f a)) (hg:zf f a (a+1) i g):dO c a b g:=by
 obtain⟨g1,g2,g3⟩:=hg
 have e1:∀k,a≤k→k<i-1→g k=f (k+1):=fun k p1 p2=>by have:=g1 (k-a) (by omega);rw[show a+(k-a)=k by omega] at this;rw[this];congr 1;omega
 have e2:g (i-1)=f a:=by have:=g2 0 (by omega);rw[show a+(i-(a+1))+0=i-1 by omega] at this;rw[this];rfl
 have e3:∀k,i≤k→g k=f k:=fun k hk=>g3 k (.inr hk)
 intro p q p1 p2 p3
 rcases Nat.lt_or_ge q (i-1) with x|x
 ·rw[e1 p p1 (by omega),e1 q (by omega) x];exact h2 _ _ (by omega) (by omega) (by omega)
 ·rcases Nat.lt_or_ge q i with y|y
  ·obtain rfl:q=i-1:=by omega
   rw[e2,e1 p p1 p2];exact hlo _ (by omega) (by omega)
  ·rw[e3 q y]
   rcases Nat.lt_or_ge p (i-1) with z|z
   ·rw[e1 p p1 z];exact h2 _ _ (by omega) (by omega) p3
   ·rcases Nat.lt_or_ge p i with v|v
    ·obtain rfl:p=i-1:=by omega
     rw[e2];have:=hup q y p3;have:=hT.flip (f q) (f a);omega
    ·rw[e3 p v];exact h2 _ _ (by omega) p2 p3
theorem JX {a m i:Nat} {f g:Nat→α} (hT:Total c) (h1:dO c a m f) (ha:a≤i) (hi:i≤m) (hlo:∀k,a≤k→k<i→0≤c (f m) (f k)) (hup:∀k,i≤k→k<m→c (f m) (f k)≤0) (hg:zf f i m (m+1) g):dO c a (m+1) g:=by
 obtain⟨g1,g2,g3⟩:=hg
 have e1:∀k,k<i→g k=f k:=fun k hk=>g3 k (.inl hk)
 have e2:g i=f m:=g1 0 (by omega)
 have e3:∀k,i<k→k<m+1→g k=f (k-1):=fun k p1 p2=>by have:=g2 (k-(i+1)) (by omega);rw[show i+(m+1-m)+(k-(i+1))=k by omega] at this;rw[this];congr 1;omega
 intro p q p1 p2 p3
 rcases Nat.lt_trichotomy q i with x|x|x
 ·rw[e1 p (by omega),e1 q x];exact h1 _ _ p1 p2 (by omega)
 ·subst x;rw[e2,e1 p p2];have:=hlo p p1 p2;have:=hT.flip (f m) (f p);omega
 ·rw[e3 q x p3]
  rcases Nat.lt_trichotomy p i with y|y|y
  ·rw[e1 p y];exact h1 _ _ p1 (by omega) (by omega)
  ·subst y;rw[e2];exact hup _ (by omega) (by omega)
  ·rw[e3 p y (by omega)];exact h1 _ _ (by omega) (by omega) (by omega)
structure Hq (c:α→α→Int) (a i j:Nat) (f:Nat→α):Prop where
 lo:dO c a j f
 hi:dO c j (i+1) f
 ac:∀p q,a≤p→p<j→j<q→q<i+1→c (f p) (f q)≤0
theorem Hq.start {a i:Nat} {f:Nat→α} (h:dO c a i f):Hq c a i i f:=⟨h,fun p q p1 p2 p3=>by omega,fun p q p1 p2 p3 p4=>by omega⟩
theorem Hq.step {a i j:Nat} {f:Nat→α} (h:Hq c a i j f) (h1:a<j) (h2:j≤i) (hlt:c (f j) (f (j-1))<0):Hq c a i (j-1) (sF f j (j-1)):=by
 have e1:∀k,k<j-1→sF f j (j-1) k=f k:=fun k hk=>by unfold sF;rw[if_neg (by omega),if_neg (by omega)]
 have e2:sF f j (j-1) (j-1)=f j:=by unfold sF;rw[if_neg (by omega),if_pos rfl]
 have e3:sF f j (j-1) j=f (j-1):=by unfold sF;rw[if_pos rfl]
 have e4:∀k,j<k→sF f j (j-1) k=f k:=fun k hk=>by unfold sF;rw[if_neg (by omega),if_neg (by omega)]
 refine⟨fun p q p1 p2 p3=>?_,fun p q p1 p2 p3=>?_,fun p q p1 p2 p3 p4=>?_⟩
 ·rw[e1 p (by omega),e1 q (by omega)];exact h.lo p q p1 p2 (by omega)
 ·rcases Nat.lt_trichotomy p j with x|x|x
  ·obtain rfl:p=j-1:=by omega
   rw[e2]
   rcases Nat.lt_trichotomy q j with y|y|y
   ·omega
   ·subst y;rw[e3];omega
   ·rw[e4 q y];exact h.hi j q (Nat.le_refl _) y p3
  ·subst x
   rw[e3,e4 q p2];exact h.ac (p-1) q (by omega) (by omega) p2 p3
  ·rw[e4 p x,e4 q (by omega)];exact h.hi p q (by omega) p2 p3
 ·rw[e1 p (by omega)]
  rcases Nat.lt_trichotomy q j with y|y|y
  ·omega
  ·subst y;rw[e3];exact h.lo p (q-1) p1 (by omega) (by omega)
  ·rw[e4 q y];exact h.ac p q p1 (by omega) y p4
theorem Hq.stop {a i j:Nat} {f:Nat→α} (hT:Total c) (h:Hq c a i j f) (h1:a≤j) (h2:j≤i) (hj:j=a∨0≤c (f j) (f (j-1))):dO c a (i+1) f:=QT hT h.lo h.hi h.ac hj h1 (by omega)
def DF (D:α→α→Prop) (n:Nat) (f:Nat→α):Prop:=∀i j,i<n→j<n→i≠j→D (f i) (f j)
theorem DF.sw1 {D:α→α→Prop} {n:Nat} {f:Nat→α} (h:DF D n f) {i j:Nat} (hi:i<n) (hj:j<n):DF D n (sF f i j):=by
 intro p q hp hq hne
 unfold sF
 (repeat' split)<;>first|(exfalso;omega)|(apply h<;>omega)|skip
 all_goals (subst_vars;first|(exfalso;omega)|(apply h<;>omega))
theorem DF.sw {D:α→α→Prop} {n a b:Nat} {f g:Nat→α} (h:DF D n f) (hs:Sw a b f g) (hb:b≤n):DF D n g:=by
 induction hs with
 | refl=>exact h
 | step g' i j _ p1 p2 p3 p4 ih=>exact ih.sw1 (by omega) (by omega)
theorem DF.Ur {D:α→α→Prop} [Inhabited α] (hD:∀x y,D x y→D y x) {l:List α} (h:l.Pairwise D):DF D l.length fun i=>l.getD i default:=by
 intro i j hi hj hne
 have hp:=List.pairwise_iff_getElem.1 h
 simp only[List.getD_eq_getElem?_getD,List.getElem?_eq_getElem hi,List.getElem?_eq_getElem hj,Option.getD_some]
 rcases Nat.lt_or_ge i j with e|e
 ·exact hp i j hi hj e
 ·exact hD _ _ (hp j i hj hi (by omega))
theorem zB [Inhabited α] (l:List α):(List.range l.length).map (fun i=>l.getD i default)=l:=by
 apply List.ext_getElem
 ·simp
 ·intro i h1 h2
  simp[List.getElem?_eq_getElem h2]
end
end PA
namespace PA
section
variable {α:Type} {c:α→α→Int}
theorem zf.up0 (f:Nat→α) (a:Nat):zf f a (a+1) (a+1) f:=⟨fun t ht=>by omega,fun t ht=>by congr 1;omega,fun k _=>rfl⟩
theorem zf.up {f g:Nat→α} {a k:Nat} (h:zf f a (a+1) (k+1) g) (hk:a≤k):zf f a (a+1) (k+2) (sF g k (k+1)):=by
 obtain⟨g1,g2,g3⟩:=h
 have e2:g k=f a:=by have:=g2 0 (by omega);rw[show a+(k+1-(a+1))+0=k by omega] at this;exact this
 refine⟨fun t ht=>?_,fun t ht=>?_,fun x hx=>?_⟩
 ·unfold sF
  by_cases e:a+t=k
  ·rw[if_pos e,g3 (k+1) (.inr (Nat.le_refl _))];congr 1;omega
  ·rw[if_neg e,if_neg (by omega)];exact g1 t (by omega)
 ·unfold sF
  rw[if_neg (by omega),if_pos (by omega),e2];congr 1;omega
 ·unfold sF
  rw[if_neg (by omega),if_neg (by omega)];exact g3 x (by omega)
theorem zf.down0 (f:Nat→α) (m:Nat):zf f m m (m+1) f:=⟨fun t ht=>rfl,fun t ht=>by omega,fun k _=>rfl⟩
theorem zf.down {f g:Nat→α} {m k:Nat} (h:zf f k m (m+1) g) (h0:0<k) (hk:k≤m):zf f (k-1) m (m+1) (sF g k (k-1)):=by
 obtain⟨g1,g2,g3⟩:=h
 have e2:g k=f m:=g1 0 (by omega)
 refine⟨fun t ht=>?_,fun t ht=>?_,fun x hx=>?_⟩
 ·unfold sF
  rw[if_neg (by omega),if_pos (by omega),e2];congr 1;omega
 ·unfold sF
  by_cases e:k-1+(m+1-m)+t=k
  ·rw[if_pos e,g3 (k-1) (.inl (by omega))];congr 1;omega
  ·rw[if_neg e,if_neg (by omega)]
   have:=g2 (t-1) (by omega)
   rw[show k+(m+1-m)+(t-1)=k-1+(m+1-m)+t by omega] at this
   rw[this];congr 1;omega
 ·unfold sF
  rw[if_neg (by omega),if_neg (by omega)];exact g3 x (by omega)
theorem zf.none1 (f:Nat→α) (m b:Nat):zf f m m b f:=⟨fun t _=>rfl,fun t ht=>by omega,fun k _=>rfl⟩
theorem zf.none2 (f:Nat→α) (a m:Nat):zf f a m m f:=⟨fun t ht=>by omega,fun t _=>by congr 1;omega,fun k _=>rfl⟩
structure Bs (c:α→α→Int) (lo hi i j:Nat) (f:Nat→α) (x:α):Prop where
 h1:lo≤i
 h2:i≤j
 h3:j≤hi
 lo:∀k,lo≤k→k<i→c (f k) x≤0
 up:∀k,j≤k→k<hi→0≤c (f k) x
theorem Bs.start {lo hi:Nat} (h:lo≤hi) (f:Nat→α) (x:α):Bs c lo hi lo hi f x:=⟨Nat.le_refl _,h,Nat.le_refl _,fun k p1 p2=>by omega,fun k p1 p2=>by omega⟩
theorem Bs.right {lo hi i j:Nat} {f:Nat→α} {x:α} (hT:Total c) (hs:dO c lo hi f) (h:Bs c lo hi i j f x) {m:Nat} (h1:i≤m) (h2:m<j) (hm:c (f m) x≤0):Bs c lo hi (m+1) j f x:=by
 refine⟨by have:=h.h1;omega,by omega,h.h3,fun k p1 p2=>?_,h.up⟩
 rcases Nat.lt_or_ge k m with e|e
 ·exact hT.trans _ _ _ (hs k m p1 e (by have:=h.h3;omega)) hm
 ·obtain rfl:k=m:=by omega
  exact hm
theorem Bs.left {lo hi i j:Nat} {f:Nat→α} {x:α} (hT:Total c) (hs:dO c lo hi f) (h:Bs c lo hi i j f x) {m:Nat} (h1:i≤m) (h2:m<j) (hm:0≤c (f m) x):Bs c lo hi i m f x:=by
 refine⟨h.h1,h1,by have:=h.h3;omega,h.lo,fun k p1 p2=>?_⟩
 rcases Nat.lt_or_ge m k with e|e
 ·have h3:=hs m k (by have:=h.h1;omega) e p2
  have h4:=hT.flip (f m) x
  have h5:=hT.trans _ _ _ (show c x (f m)≤0 by omega) h3
  have h6:=hT.flip (f k) x
  omega
 ·obtain rfl:k=m:=by omega
  exact hm
end
end PA
namespace PA
open Go Go.RowKit
section
variable {P:Program} {W w:World} {A:aH}
end
end PA
namespace PA
open Go Go.RowKit
section
variable {W w:World} {A:aH}
end
end PA
namespace Go.Proofs.YtgicfogmdfdjmaaGreatDoor
open Go.RowKit PA
theorem wK {a:Int} (h:(Lit.int .i64 a).wf=true):-9223372036854775808≤a∧a≤9223372036854775807:=bounds_i64 h
def iy (n m:Int):Int:=(if n<0 then -(n+1) else n) % m
theorem iL (n m:Int) (h:0<m):0≤iy n m∧iy n m<m:=by
 unfold iy;exact⟨Int.emod_nonneg _ (by omega),Int.emod_lt_of_pos _ h⟩
theorem MH {a b:Int} (h:a=b):Ending.returned (.int .i64 a)=.returned (.int .i64 b):=by rw[h]
theorem Rj {a b:Bool} (h:a=b):Ending.returned (.bool a)=.returned (.bool b):=by rw[h]
set_option maxHeartbeats 400000 in
theorem kK (n m:Int) (w:World) (hn:-9223372036854775808≤n) (hn2:n≤9223372036854775807) (hm:1≤m) (hm2:m≤9223372036854775807):
 Calls Tryz.prog 6 #[.int .i64 n,.int .i64 m] w fun e w'=>e=.returned (.int .i64 (iy n m))∧w=w':=by
 by_cases h:n<0
 ·go_enter Tryz.func6,Tryz.ntmps6
  go_wp2
  go_ret
  exact⟨MH (by unfold iy;rw[if_pos h,←Int.neg_tmod,Int.tmod_eq_emod_of_nonneg (by omega)]),rfl⟩
 ·go_enter Tryz.func6,Tryz.ntmps6
  go_wp2
  go_ret
  exact⟨MH (by unfold iy;rw[if_neg (by omega)]),rfl⟩
end Go.Proofs.YtgicfogmdfdjmaaGreatDoor
namespace PA
open Go Go.RowKit
theorem Sat.putObj {W w:World} {A:aH} {l:Nat} {o:Obj} (h:Sat W w (sep (blk l o) A)) (o':Obj):Sat W (w.putObj l o') (sep (blk l o') A):=
 h.change rfl rfl rfl (World.putObj_heap_same h.lt) fun _ hk _=>World.putObj_heap_other hk
section
variable {α:Type} {F:Fence} {P:Program}
def Takes (F:Fence) (n:Nat) (P:Program) (W:World) (l:Nat) (encs:α→Array Value) (Fx:α→aH) (N:Nat) (R:List α→aH):Prop:=
 ∀(pre:List α) (x:α) (w:World) (B:aH),pre.length<N→Sat W w (sep (R pre) (sep (Fx x) B)) →
  YieldAt F n P l (encs x) w fun e w'=>e=.returned (.bool true)∧Sat W w' (sep (R (pre++[x])) B)
def Gives (F:Fence) (n:Nat) (P:Program) (W:World) (gf:Nat) (lb:Array Value) (encs:α→Array Value) (Fx:α→aH) (N:Nat) (S:List α→Prop) (Pre Post:aH):Prop:=
 ∀(l:Nat) (R:List α→aH) (w:World),Takes F (n-1) P W l encs Fx N R→Sat W w (sep (R []) Pre) →
  CallsIn F n P gf (#[.func (.yield l) #[] #[]]++lb) w fun e w'=>(∃v,e=.returned v)∧∃xs,S xs∧Sat W w' (sep (R xs) Post)
def Round (W:World) (A:aH):Exit→Act→World→Prop
 | .normal,_,w=>Sat W w A
 | _,_,_=>False
theorem Kq {n:Nat} {W:World} {g:Operand} {ps:Array Tmp} {assign body:Code} {Q:Exit→Act→World→Prop} {a:Act} {w:World}
 (hro:F.round=none) (h1:1≤n) {gf:Nat} {lb:Array Value} (hg:a.eval g=.func (.func gf) #[] lb) (hFg:F.fn gf) (eg:∀args w,(callFunc gf args).run P w=.ok (.enter gf args) w)
 {encs:α→Array Value} {Fx:α→aH} {N:Nat} {S:List α→Prop} {Pre Post:aH} (hps:∀x,(encs x).size=ps.size)
 (hseq:Gives F (n-1) P W gf lb encs Fx N S Pre Post)
 (C:List α→aH) (h0:Sat W w (sep (C []) Pre)) (a₁:α→Act)
 (hassign:∀(l:Nat) (x:α) (w':World) (K:Act→World→Prop),K (a₁ x) w' →
  assign.wpIn (F.inRound l) (n-1-1) P (Exit.then K (fun _ _ _=>False)) { tmps:=(ps.zip (encs x)).foldl (fun t (p,v)=>t.setIfInBounds p v) a.tmps,defers:=[] } w')
 (hbody:∀(l:Nat) (pre:List α) (x:α) (w':World) (B:aH),pre.length<N→Sat W w' (sep (C pre) (sep (Fx x) B)) →
  body.wpIn (F.inRound l) (n-1-1) P (Round W (sep (C (pre++[x])) B)) (a₁ x) w')
 (hdone:∀(D:Nat) (xs:List α) (w':World),S xs→Sat W w' (sep (blk D (.deferred (some []))) (sep (C xs) Post)) →
  Q .normal { a with defers:={ target:=.collected D,args:=#[] }::a.defers } w'):
 (Code.rangeFunc g ps assign body).wpIn F n P Q a w:=by
 refine wpIn_rangeFunc fun fn hfn=>?_
 rw[hro]
 obtain⟨D,hD⟩:=aG (w.heap.size)
 obtain⟨mk,hmk⟩:∃mk:LoopState→Option Code→Loop,mk=fun st pe=>⟨st,pe,fn,a.tmps,ps,assign,body,D⟩:=⟨_,rfl⟩
 obtain⟨w1,hw1⟩:=aG ((w.alloc (.deferred (some []))).alloc (.loop (mk .ready none)))
 have hS1:Sat W w1 (sep (sep (C []) (sep (blk (D+1) (.loop (mk .ready none))) (blk D (.deferred (some []))))) Pre):=by
  have h:=(h0.alloc (.deferred (some []))).alloc (.loop (mk .ready none))
  rw[World.size_alloc,←hw1,←hD] at h
  simpa only[ay,au,aj] using h
 have henter:=run_enterLoop_outer (P:=P) (w:=w) fn a.tmps ps assign body
 refine⟨D+1,[{ target:=.collected D,args:=#[] }],w1,{ target:=.fn (.func gf) lb,args:=#[.func (.yield (D+1)) #[] #[]] },w1,gf,#[.func (.yield (D+1)) #[] #[]]++lb,w1,?_,?_,?_,?_,fun _=>h1,?_⟩
 ·rw[hw1,hmk,hD];exact henter
 ·simp only[resolve,hg]
  simp[go_sem]
 ·intro f' hf';simp[Target.leads] at hf';subst hf';exact hFg
 ·simp[invoke,go_sem,eg]
 ·refine (hseq (D+1) (fun pre=>sep (C pre) (sep (blk (D+1) (.loop (mk .ready none))) (blk D (.deferred (some []))))) w1 ?_ hS1).mono ?_
  ·intro pre x w2 B hlen hS
   have hl:Sat W w2 (sep (blk (D+1) (.loop (mk .ready none))) (sep (C pre) (sep (Fx x) (sep B (blk D (.deferred (some []))))))):=by simpa only[ay,au,aj] using hS
   have hy:=run_yield (P:=P) (args:=encs x) hl.aK (by rw[hmk];exact hps x)
   rw[hmk] at hy
   refine⟨fn,_,assign,body,hy,roundIn_of_wpIn hfn (hassign _ x w2 _ ⟨_,run_beginRound hl.aK (by rw[hmk]),?_⟩)⟩
   have h3:=(hl.putObj (.loop { mk .ready none with state:=.busy })).p1
   refine wpIn_mono (hbody _ pre x _ (sep (blk (D+1) (.loop { mk .ready none with state:=.busy })) (sep B (blk D (.deferred (some []))))) hlen (by simpa only[ay,au,aj] using h3)) ?_
   rintro e a3 w3 hp
   cases e with
   | normal=>
    have h4:Sat W w3 (sep (blk (D+1) (.loop { mk .ready none with state:=.busy })) (sep (C (pre++[x])) (sep B (blk D (.deferred (some [])))))):=Sat.p1 hp
    have hr:=run_endRound (P:=P) none h4.aK
    have h5:=h4.putObj (.loop (mk .ready none))
    refine⟨_,_,hr,rfl,?_⟩
    have e:({ mk .ready none with state:=.busy }:Loop)=mk .busy none:=by rw[hmk]
    rw[e]
    have e2:({ mk .busy none with state:=if (none:Option Code).isNone then .ready else .done,pending:=none }:Loop)=mk .ready none:=by rw[hmk];rfl
    rw[e2]
    simpa only[ay,au,aj] using h5
   | ret=>exact hp.elim
   | exit id=>exact hp.elim
   | goto t=>exact hp.elim
   | panic ch=>exact hp.elim
   | outgrown=>exact hp.elim
  ·rintro e w2 ⟨⟨v,rfl⟩,xs,hS,h2⟩
   have h3:Sat W w2 (sep (blk (D+1) (.loop (mk .ready none))) (sep (C xs) (sep Post (blk D (.deferred (some [])))))):=by simpa only[ay,au,aj] using h2
   have e:(mk .ready none).pending=none:=by rw[hmk]
   have hr:=run_endLoop (P:=P) h3.aK (by rw[hmk];simp)
   have h4:=(h3.putObj (.loop { mk .ready none with state:=.exhausted })).drop
   rw[e] at hr
   refine⟨none,_,hr,hdone D xs _ hS ?_⟩
   dsimp only at h4
   rw[e] at h4
   simpa only[ay,au,aj] using h4
theorem yP {F:Fence} {n':Nat} {P:Program} {W w:World} {A:aH} {ops:Array Oper} {rest:List Oper} {o:Oper} {ac:Act} {Q:Exit→Act→World→Prop} (hgd:o.guard=none) (s y:Operand) (t:TypeId)
 (ho:o.op=.call { callee:=.builtin .append,args:=#[s,y],argTypes:=#[t,t] })
 (E k GI:Nat) (z:Value) (ht:P.underlying t=some (.slice E)) (hi:(P.info? E).map (fun i=>(i.zero,i.size,i.bytes))=some (some z,k,GI)) (hzs:z.cells.size=k)
 {a:Option Addr} {n c:Nat} {xs:List Value} (hs:ac.eval s=.slice a n c) (h:Sat W w (sep (aN E k a n c xs) A))
 {x:Option Addr} {m cc:Nat} (hy:ac.eval y=.slice x m cc) (news:List Value) (hl:news.length=m*k) (hx0:x=none→m=0) (hx:∀b,x=some b→∀j u,news[j]?=some u→w.cell? (b.add j)=some u)
 (h1:∀u∈news,u.oneCell'=true) (hby:(n+m)*GI≤140737488355328) (h63:n+m≤maxLen)
 (hK:∀a' c' w',Sat W w' (sep (aN E k a' (n+m) c' (xs++news)) A)→wpListIn F n' P ops Q rest (ac.put o.dst (.slice a' (n+m) c')) w'):wpListIn F n' P ops Q (o::rest) ac w:=by
 refine wpListIn_plain hgd fun K hK'=>?_
 obtain⟨i,hi1,hi2,hi3,hi4⟩:=info_parts hi
 obtain⟨a',c',w',hr,hS⟩:=lW t o.type E k GI i z ht hi1 hi2 hi3 hi4 hzs h x m cc news hl hx0 hx h1 h63 hby
 unfold Oper.wpIn
 refine⟨?_,?_⟩
 ·simp[Oper.about,ho,resolve,Target.leads,Sem.run_pure]
 ·rw[Oper.semAt_plain F _ _ (by rw[ho];intro c hc';cases hc')]
  rw[qF s y t t ho (by rw[hs,hy];exact hr)]
  exact hK' _ _ (hK a' c' w' hS)
end
end PA
namespace PA
open Go Go.RowKit Go.Sort
theorem heap_sortedI {w:World} {g n:Nat} {os:Array Obj} {cur:Array Value} {e:TypeId} {fr:Nat×Nat} (d:Array Int) (hb:w.heap[g]?=some (.cells cur e fr)):
 (grow (putRow (Value.int .i64) (Sort.ahead w n) g 0 d) os).heap[g]?=some (.cells (putCells (Value.int .i64) 0 d cur) e fr):=by
 have hg:g<w.heap.size:=(Array.getElem?_eq_some_iff.1 hb).1
 rw[heap_grow_old _ _ (by simpa using hg)]
 simp[putRow,mapBlock,Sort.ahead,Array.getElem?_modify,hb,onCells]
theorem vH {w:World} {g n:Nat} {os:Array Obj} (d:Array Int) (k:Nat) (hk:k≠g) (hk2:k<w.heap.size):
 (grow (putRow (Value.int .i64) (Sort.ahead w n) g 0 d) os).heap[k]?=w.heap[k]?:=by
 rw[heap_grow_old _ _ (by simpa using hk2)]
 have:g≠k:=fun e=>hk e.symm
 simp[putRow,mapBlock,Sort.ahead,Array.getElem?_modify,this]
theorem take_putCellsI (cur:Array Value) (ts:List Int) (h:ts.length≤cur.size):(putCells (Value.int .i64) 0 ts.toArray cur).toList.take ts.length=ts.map iv:=by
 apply List.ext_getElem?
 intro j
 by_cases hj:j<ts.length
 ·rw[List.getElem?_take_of_lt hj,Array.getElem?_toList]
  simp[putCells,hj,show j<cur.size by omega,iv]
 ·rw[List.getElem?_take_eq_none (by omega),List.getElem?_eq_none (by simp;omega)]
theorem E8 {w:World} {g:Nat} {cur:Array Value} {e:TypeId} {zs:List Int} (hb:w.heap[g]?=some (.cells cur e (0,0))) (ht:cur.toList.take zs.length=zs.map iv):Holds (Value.int .i64) w g 0 zs.toArray:=by
 intro j hj
 have hj':j<zs.length:=by simpa using hj
 refine⟨?_,by simp[World.frozen?,hb]⟩
 have h1:(cur.toList.take zs.length)[j]?=(zs.map iv)[j]?:=by rw[ht]
 rw[List.getElem?_take_of_lt hj'] at h1
 simp only[World.cell?,hb,Nat.zero_add]
 simp only[Option.isSome_none,Bool.false_eq_true,if_false]
 rw[←Array.getElem?_toList,h1]
 simp[hj',iv]
theorem Sat.sorted {W w:World} {A:aH} {E g c m:Nat} {zs ts:List Int} {os:Array Obj} (h:Sat W w (sep (aN E 1 (some ⟨g,0,none⟩) zs.length c (zs.map iv)) A)) (hl:ts.length=zs.length):
 Sat W (Go.Sort.grow (putRow (Value.int .i64) (Sort.ahead w m) g 0 ts.toArray) os) (sep (aN E 1 (some ⟨g,0,none⟩) ts.length c (ts.map iv)) A):=by
 rcases h.dV with ⟨e,-⟩|⟨g',cur,e,h1,h2,h3,h4,h5,h6⟩
 ·cases e
 ·cases e
  have h7:=h6.change (o':=.cells (putCells (Value.int .i64) 0 ts.toArray cur) E (0,0)) (w':=Go.Sort.grow (putRow (Value.int .i64) (Sort.ahead w m) g 0 ts.toArray) os) rfl rfl rfl (heap_sortedI _ h6.aK) (fun k hk hk2=>vH _ k hk hk2)
  exact h7.nH ts.length c 1 (ts.map iv) (by simp) (by omega) h3 (by simp[putCells,h4]) (by rw[Nat.mul_one];exact take_putCellsI cur ts (by omega))
end PA
namespace Go.Proofs.YtgicfogmdfdjmaaGreatDoor
open Go.RowKit PA
attribute [local go_sem] Oper.semAt_some
def nX (zs:List Int):List Int:=zs.mergeSort fun x y=>decide (x≤y)
theorem Kv {W w:World} {A:aH} (a:Option Addr) (c:Nat) (zs:List Int) (hz:zs.length<4611686018427387904) (h:Sat W w (sep (aN 3 1 a zs.length c (zs.map iv)) A)):
 Calls Tryz.prog 61 #[.slice a zs.length c] w fun e w'=>e=.returned (.tuple #[])∧Sat W w' (sep (aN 3 1 a zs.length c ((nX zs).map iv)) A):=by
 rcases h.dV with ⟨rfl,h1,rfl,h2,h3⟩|⟨g,cur,rfl,h1,h2,h3,h4,h5,h6⟩
 ·have hz0:zs=[]:=List.eq_nil_of_length_eq_zero h1
  subst hz0
  refine (AnyM.slices_Sort_int_none sortA none 0 w).mono ?_
  rintro e w' ⟨rfl,rfl⟩
  have e0:nX []=[]:=by simp[nX]
  rw[e0]
  exact⟨rfl,h⟩
 ·have hH:=E8 (zs:=zs) h6.aK (by rw[Nat.mul_one] at h5;exact h5)
  refine (AnyM.slices_Sort_int sortA g 0 c zs w hH h6.lt hz).mono ?_
  rintro e w' ⟨rfl,m,os,rfl⟩
  refine⟨rfl,?_⟩
  have hl:(nX zs).length=zs.length:=by simp[nX]
  have:=h.sorted (ts:=nX zs) (m:=m) (os:=os) hl
  rw[hl] at this
  exact this
def zN (x:Int):Array Value:=#[.int .i64 x]
def noA (_:Int):aH:=emp
theorem UW:(Tryz.prog.info? 3).map (fun i=>(i.zero,i.size,i.bytes))=some (some (.int .i64 0),1,8):=by kernel_rfl
set_option maxRecDepth 100000 in
set_option maxHeartbeats 2000000 in
theorem appendSeq_in {W w:World} {Pre Post:aH} {S:List Int→Prop} (n N gf:Nat) (lb:Array Value) (hn:2≤n) (hN:N≤1000000000) (eg:∀args w,(callFunc gf args).run Tryz.prog w=.ok (.enter gf args) w)
 (hseq:Gives Fence.wide (n-1) Tryz.prog W gf lb zN noA N S Pre Post) (h:Sat W w Pre):
 CallsIn Fence.wide n Tryz.prog 75 #[.slice none 0 0,.func (.func gf) #[] lb] w fun e w'=>∃a c xs,e=.returned (.slice a xs.length c)∧S xs∧xs.length≤N∧Sat W w' (sep (aN 3 1 a xs.length c (xs.map iv)) Post):=by
 refine callsIn_of_wp_marks Tryz.func75 rfl trivial ?_ rfl
 simp only[Tryz.ntmps75,List.size_toArray,List.length_cons,List.length_nil,Nat.reduceAdd,Nat.reduceSub,Array.replicate_succ,Array.replicate_zero,List.push_toArray,List.append_toArray,List.nil_append,List.cons_append]
 obtain⟨B,hB⟩:=aG (w.heap.size)
 have h1:=(h.dD 3 1).alloc (.cells #[.slice none 0 0] 22)
 rw[←hB] at h1
 obtain⟨w1,hw1⟩:=aG (w.alloc (.cells #[.slice none 0 0] 22))
 rw[←hw1] at h1
 have HB:=ah hB
 have HW1:=ah hw1
 clear hB hw1 h
 gi_wp2_with fail
 rw[←HW1.out,←HB.out]
 refine Kq (F:=Fence.wide) (W:=W) rfl (by omega) (gf:=gf) (lb:=lb) rfl trivial eg (encs:=zN) (fun _=>rfl) hseq
  (fun xs=>ex fun p:Option Addr×Nat=>sep (fact (xs.length≤N)) (sep (blk B (.cells #[.slice p.1 xs.length p.2] 22 (0,0))) (aN 3 1 p.1 xs.length p.2 (xs.map iv)))) ?_
  (fun x=>{ tmps:=#[.slice none 0 0,.func (.func gf) #[] lb,.pointer (some ⟨B,0,none⟩),undef,.slice none 0 0,.int .i64 x,.func (.func gf) #[] lb,.int .i64 x,undef,undef,undef,undef,undef],defers:=[] }) ?assign ?body ?done
 ·rw[dG,Sat.ex]
  refine⟨(none,0),?_⟩
  rw[aj]
  refine Sat.fact.2 ⟨Nat.zero_le _,?_⟩
  show Sat W w1 (sep (sep (blk B (.cells #[.slice none 0 0] 22 (0,0))) (aN 3 1 none 0 0 [])) Pre)
  simpa only[ay,au,aj] using h1
 case assign=>
  intro lp x w' K hK
  dsimp only[zN]
  gi_wp2
  exact hK
 case body=>
  intro lp pre x w' A' hlen hS
  rw[dG,Sat.ex] at hS
  obtain⟨⟨oa,oc⟩,hS⟩:=hS
  dsimp only at hS
  rw[aj] at hS
  have hS2:=(Sat.fact.1 hS).2
  obtain⟨pl,hpl⟩:=aG (pre.length)
  rw[←hpl] at hS2 hlen
  have h2:Sat W w' (sep (blk B (.cells #[.slice oa pl oc] 22 (0,0))) (sep (aN 3 1 oa pl oc (pre.map iv)) A')):=by
   have:Sat W w' (sep (emp) (sep (blk B (.cells #[.slice oa pl oc] 22 (0,0))) (sep (aN 3 1 oa pl oc (pre.map iv)) A'))):=by simpa only[noA,ay,au,aj] using hS2
   rwa [bW] at this
  have hbox:w'.cell? ⟨B,0,none⟩=some (.slice oa pl oc):=h2.cell 0
  have h3:=(h2.alloc (.cells #[.int .i64 x] 3)).p2
  have PO:=ah hpl
  clear hS hS2 h2 hpl
  gi_wp2_with (gi_at_builtin;refine yP rfl (.tmp 8) (.tmp 10) 22 rfl 3 1 8 (.int .i64 0) Tryz.underlying22 UW rfl rfl h3 rfl [.int .i64 x] rfl (by simp) (by intro b hb;cases hb;exact fE _ [_] _) (by simp[Value.oneCell']) (by omega) (by unfold maxLen;omega) ?_)
  intro oa2 oc2 w2 h4
  have h5:=h4.p2
  have hf:=h5.aI 0
  have hc:=h5.cell 0
  have h6:=h5.setCell 0 (.slice oa2 (pl+1) oc2)
  clear h3 h4 h5 hbox
  gi_wp2_with fail
  show Sat W _ _
  have e:(pre++[x]).length=pl+1:=by rw[List.length_append,←PO.out];rfl
  rw[dG,Sat.ex]
  refine⟨(oa2,oc2),?_⟩
  dsimp only
  rw[aj]
  refine Sat.fact.2 ⟨by rw[e];omega,?_⟩
  rw[e,List.map_append]
  show Sat W _ (sep (sep (blk B (.cells #[.slice oa2 (pl+1) oc2] 22 (0,0))) (aN 3 1 oa2 (pl+1) oc2 (pre.map iv++[.int .i64 x]))) A')
  have h7:=h6.p2.drop
  simpa only[ay,au,aj,List.setIfInBounds_toArray,List.set_cons_zero] using h7
 case done=>
  intro D xs w' hS hS'
  have h2:Sat W w' (sep (ex _) _):=hS'.p1
  rw[dG,Sat.ex] at h2
  obtain⟨⟨oa,oc⟩,h2⟩:=h2
  dsimp only at h2
  rw[aj] at h2
  obtain⟨hle,h3⟩:=Sat.fact.1 h2
  obtain⟨ll,hll⟩:=aG (xs.length)
  rw[←hll] at h3
  have h4:Sat W w' (sep (blk B (.cells #[.slice oa ll oc] 22 (0,0))) (sep (blk D (.deferred (some []))) (sep (aN 3 1 oa ll oc (xs.map iv)) Post))):=by simpa only[ay,au,aj] using h3
  have hc1:w'.cell? ⟨B,0,none⟩=some (.slice oa ll oc):=h4.cell 0
  have hD:=h4.p1.aK
  have HS:=ah hS
  have Iw:=ah hll
  have iE:=ah hle
  clear hS hS' h2 h3 hll hle
  gi_wp2_with fail
  refine⟨by simp,.inl ⟨_,_,rfl,run_takeDeferred hD,?_⟩⟩
  refine⟨_,results_tmp rfl _ _ _,oa,oc,xs,by rw[←Iw.out];rfl,HS.out,iE.out,?_⟩
  rw[←Iw.out]
  exact (h4.p1.putObj (.deferred none)).drop.drop
set_option maxRecDepth 100000 in
theorem collect_in {W w:World} {Pre Post:aH} {S:List Int→Prop} (n N gf:Nat) (lb:Array Value) (hn:3≤n) (hN:N≤1000000000) (eg:∀args w,(callFunc gf args).run Tryz.prog w=.ok (.enter gf args) w)
 (hseq:Gives Fence.wide (n-1-1) Tryz.prog W gf lb zN noA N S Pre Post) (h:Sat W w Pre):
 CallsIn Fence.wide n Tryz.prog 60 #[.func (.func gf) #[] lb] w fun e w'=>∃a c xs,e=.returned (.slice a xs.length c)∧S xs∧xs.length≤N∧Sat W w' (sep (aN 3 1 a xs.length c (xs.map iv)) Post):=by
 refine callsIn_of_wp Tryz.func60 rfl trivial ?_ rfl
 simp only[Tryz.ntmps60,List.size_toArray,List.length_cons,List.length_nil,Nat.reduceAdd,Nat.reduceSub,Array.replicate_succ,Array.replicate_zero,List.push_toArray,List.append_toArray,List.nil_append,List.cons_append]
 have h1:=appendSeq_in (n-1) N gf lb (by omega) hN eg hseq h
 have H1:=ah h1
 clear h1 h hseq
 gi_wp2_with fail
 refine⟨trivial,fun _=>by omega,H1.out.mono ?_⟩
 rintro e w' ⟨a,c,xs,rfl,h2,h3,h4⟩
 have HH:=ah (And.intro h2 h3)
 obtain⟨l,hl⟩:=aG (xs.length)
 rw[←hl] at h4 ⊢
 have HL:=ah hl
 clear h2 h3 hl
 gi_wp2_with fail
 go_ret
 exact⟨a,c,xs,by rw[←HL.out];rfl,HH.out.1,HH.out.2,by rw[←HL.out];exact h4⟩
set_option maxRecDepth 100000 in
theorem sorted_in {W w:World} {Pre Post:aH} {S:List Int→Prop} (n N gf:Nat) (lb:Array Value) (hn:4≤n) (hN:N≤1000000000) (eg:∀args w,(callFunc gf args).run Tryz.prog w=.ok (.enter gf args) w)
 (hseq:Gives Fence.wide (n-1-1-1) Tryz.prog W gf lb zN noA N S Pre Post) (h:Sat W w Pre):
 CallsIn Fence.wide n Tryz.prog 43 #[.func (.func gf) #[] lb] w fun e w'=>∃a c xs,e=.returned (.slice a xs.length c)∧S xs∧xs.length≤N∧Sat W w' (sep (aN 3 1 a xs.length c ((nX xs).map iv)) Post):=by
 refine callsIn_of_wp Tryz.func43 rfl trivial ?_ rfl
 simp only[Tryz.ntmps43,List.size_toArray,List.length_cons,List.length_nil,Nat.reduceAdd,Nat.reduceSub,Array.replicate_succ,Array.replicate_zero,List.push_toArray,List.append_toArray,List.nil_append,List.cons_append]
 have h1:=collect_in (n-1) N gf lb (by omega) hN eg hseq h
 have H1:=ah h1
 clear h1 h hseq
 gi_wp2_with fail
 refine⟨trivial,fun _=>by omega,H1.out.mono ?_⟩
 rintro e w' ⟨a,c,xs,rfl,h2,h3,h4⟩
 have h5:=Kv a c xs (by omega) h4
 have HH:=ah (And.intro h2 h3)
 obtain⟨l,hl⟩:=aG (xs.length)
 rw[←hl] at h5 ⊢
 have HL:=ah hl
 have H5:=ah h5
 clear h2 h3 h4 h5 hl
 gi_wp2_with fail
 refine⟨trivial,fun _=>by omega,(callsIn_wide.2 H5.out).mono ?_⟩
 rintro e w' ⟨rfl,h6⟩
 clear H5
 gi_wp2_with fail
 go_ret
 exact⟨a,c,xs,by rw[←HL.out];rfl,HH.out.1,HH.out.2,by rw[←HL.out];exact h6⟩
def KeysOf (f:Int→Option Value) (ks:List Int):Prop:=ks.Pairwise (·<·)∧∀k,k∈ks↔(f k).isSome=true
theorem Hz {f:Int→Option Value} {xs:List Int} (h1:xs.Nodup) (h2:∀k,k∈xs↔(f k).isSome=true):KeysOf f (nX xs)∧(nX xs).length=xs.length:=by
 have hp:(nX xs).Perm xs:=List.mergeSort_perm _ _
 have hs:(nX xs).Pairwise (fun a b=>decide (a≤b)=true):=List.pairwise_mergeSort (fun a b c h1 h2=>by simp at *;omega) (fun a b=>by simp;omega) xs
 have hn:(nX xs).Nodup:=hp.nodup_iff.2 h1
 refine⟨⟨?_,fun k=>by rw[hp.mem_iff];exact h2 k⟩,hp.length_eq⟩
 have hboth:=List.Pairwise.and hs hn
 exact hboth.imp fun h=>by simp at h;omega
end Go.Proofs.YtgicfogmdfdjmaaGreatDoor
namespace Go.Proofs.YtgicfogmdfdjmaaGreatDoor
open Go.RowKit PA
attribute [local go_sem] Oper.semAt_some
set_option maxRecDepth 100000 in
set_option maxHeartbeats 2000000 in
theorem Hy {W:World} {A:aH} (n:Nat) (hn:1≤n) (Bs b:Nat) (f:Int→Option Value) (nf:Nat):
 Gives Fence.wide n Tryz.prog W 62 #[.pointer (some ⟨Bs,0,none⟩)] zN noA nf (fun xs=>xs.Nodup∧∀k,k∈xs↔(f k).isSome=true)
  (sep (blk Bs (.cells #[.map (some b)] 76 (0,0))) (sep (jO b f nf) A)) (sep (jO b f nf) A):=by
 intro lp R w hY h0
 have HY:=ah hY
 clear hY
 have c0:w.cell? ⟨Bs,0,none⟩=some (.map (some b)):=h0.p1.cell 0
 obtain⟨w1,hrun,h1⟩:=zF (P:=Tryz.prog) Tryz.underlying76 h0.p2
 obtain⟨r,hr⟩:=aG (w.heap.size)
 rw[←hr] at hrun h1
 have h2:Sat W w1 (sep (R []) (sep (rng b r f nf (fun k=>(f k).isSome) nf) A)):=by
  have:=h1.p2.drop
  simpa only[ay,au,aj] using this
 clear h0 h1 hr
 refine callsIn_of_wp Tryz.func62 rfl trivial ?_ rfl
 simp only[Tryz.ntmps62,List.size_toArray,List.length_cons,List.length_nil,Nat.reduceAdd,Nat.reduceSub,Array.replicate_succ,Array.replicate_zero,List.push_toArray,List.append_toArray,List.nil_append,List.cons_append]
 gi_wp2_with fail
 gi_loopw [] (fun wr=>∃(pre:List Int) (cnt:Nat) (lf:Int→Bool),pre.Nodup∧(∀k,k∈pre↔(f k).isSome=true∧lf k=false)∧(∀k,lf k=true→(f k).isSome=true)∧pre.length+cnt≤nf∧Sat W wr (sep (R pre) (sep (rng b r f nf lf cnt) A))) (fun wr=>wr.rangeLeft b r)
 case atStart=>exact⟨[],nf,_,List.nodup_nil,fun k=>⟨fun h=>(by cases h),fun h=>(by rw[h.1] at h;exact absurd h.2 (by decide))⟩,fun k hk=>hk,by simp,h2⟩
 case round=>
  clear h2 hrun c0
  obtain⟨pre,cnt,lf,hnd,hmem,hlf,hlen,hS⟩:=hrel
  have hcnt:=hS.p1.GV
  rcases EJ (P:=Tryz.prog) 0 hS.p1 with ⟨hno,hrun⟩|⟨k,v,w2,cnt2,hlk,hfk,hlt,hrun,hen,hS2⟩
  ·have HH:=ah (And.intro hnd (And.intro hmem hno))
   clear hnd hmem hlf hlen hcnt hno
   gi_wp2_with fail
   go_end0
   refine⟨⟨_,rfl⟩,pre,⟨HH.out.1,fun k=>?_⟩,?_⟩
   ·rw[HH.out.2.1 k,HH.out.2.2 k];simp
   ·have:=hS.p1.Uu
    exact this.p1
  ·have hx:Sat W w2 (sep (R pre) (sep (noA k) (sep (rng b r f nf (fun z=>lf z&&z !=k) cnt2) A))):=by
    show Sat W w2 (sep (R pre) (sep emp (sep (rng b r f nf (fun z=>lf z&&z !=k) cnt2) A)))
    rw[bW]
    exact hS2.p1
   obtain⟨fn,tmps,assign,body,hy,hR⟩:=HY.out pre k w2 _ (by omega) hx
   dsimp only[zN] at hy
   have HH:=ah (And.intro hnd (And.intro hmem (And.intro hlf (And.intro hlen (And.intro hcnt (And.intro hlt hlk))))))
   clear hnd hmem hlf hlen hcnt hlt hlk hfk hS hS2 hx
   gi_wp2_with fail
   refine hR.mono ?_
   rintro e' w5 ⟨rfl,h9⟩
   clear hR hy hrun hen
   obtain⟨q1,q2,q3,q4,q5,q6,q7⟩:=HH.out
   gi_wp2_with fail
   go_roundw
   case rel=>
    refine⟨pre++[k],cnt2,_,?_,fun z=>?_,fun z hz=>?_,?_,h9⟩
    ·refine List.nodup_append.2 ⟨q1,by simp,fun x hx y hy=>?_⟩
     rw[List.mem_singleton.1 hy]
     intro e
     subst e
     have:=((q2 x).1 hx).2
     rw[q7] at this;cases this
    ·by_cases XH:z=k
     ·subst XH
      simp[q3 z q7]
     ·have:(z !=k)=true:=by simp[XH]
      rw[List.mem_append,List.mem_singleton,this,Bool.and_true,←q2 z]
      simp[XH]
    ·simp at hz
     exact q3 z hz.1
    ·rw[List.length_append,List.length_singleton];omega
   case measure=>rw[h9.p1.GV,q5];exact q6
theorem keys_in (n:Nat) (b:Nat) (w:World):
 CallsIn Fence.wide n Tryz.prog 44 #[.map (some b)] w fun e w'=>e=.returned (.func (.func 62) #[] #[.pointer (some ⟨w.heap.size,0,none⟩)])∧w'=w.alloc (.cells #[.map (some b)] 76):=by
 refine callsIn_of_wp Tryz.func44 rfl trivial ?_ rfl
 simp only[Tryz.ntmps44,List.size_toArray,List.length_cons,List.length_nil,Nat.reduceAdd,Nat.reduceSub,Array.replicate_succ,Array.replicate_zero,List.push_toArray,List.append_toArray,List.nil_append,List.cons_append]
 gi_wp2_with fail
 go_ret
 exact⟨rfl,rfl⟩
theorem Ob {W w:World} {A:aH} (b:Nat) (f:Int→Option Value) (nf:Nat) (h:Sat W w (sep (jO b f nf) A)):
 Calls Tryz.prog 44 #[.map (some b)] w fun e w'=>e=.returned (.func (.func 62) #[] #[.pointer (some ⟨w.heap.size,0,none⟩)])∧Sat W w' (sep (blk w.heap.size (.cells #[.map (some b)] 76 (0,0))) (sep (jO b f nf) A)):=by
 refine (callsIn_wide (n:=1)).1 ((keys_in 1 b w).mono ?_)
 rintro e w' ⟨rfl,rfl⟩
 exact⟨rfl,h.alloc _⟩
theorem yO {W w:World} {A:aH} (Bs b:Nat) (f:Int→Option Value) (nf:Nat) (hN:nf≤1000000000) (h:Sat W w (sep (blk Bs (.cells #[.map (some b)] 76 (0,0))) (sep (jO b f nf) A))):
 Calls Tryz.prog 43 #[.func (.func 62) #[] #[.pointer (some ⟨Bs,0,none⟩)]] w fun e w'=>∃a c ks,e=.returned (.slice a ks.length c)∧KeysOf f ks∧ks.length≤nf∧Sat W w' (sep (aN 3 1 a ks.length c (ks.map iv)) (sep (jO b f nf) A)):=by
 refine (callsIn_wide (n:=5)).1 ((sorted_in 5 nf 62 _ (by omega) hN (enters_of Tryz.func62 (by kernel_rfl) rfl) (Hy (5-1-1-1) (by omega) Bs b f nf) h).mono ?_)
 rintro e w' ⟨a,c,xs,rfl,⟨h1,h2⟩,h3,h4⟩
 obtain⟨hk,hl⟩:=Hz h1 h2
 refine⟨a,c,nX xs,by rw[hl],hk,by omega,?_⟩
 rw[hl]
 exact h4
end Go.Proofs.YtgicfogmdfdjmaaGreatDoor
namespace PA
open Go Go.RowKit
def NT (e:MapEntry):Int:=match e.key with|.int _ k=>k|_=>0
theorem nodup_range:∀(N:Nat) (l:List Int),l.Nodup→(∀x∈l,0≤x∧x<N)→l.length≤N
 | 0,l,_,hr=>by
  cases l with
  | nil=>simp
  | cons x l=>have:=hr x (by simp);omega
 | N+1,l,hn,hr=>by
  by_cases hm:(N:Int)∈l
  ·have ih:=nodup_range N (l.erase (N:Int)) (hn.erase _) (fun x hx=>by
    have h1:=(List.Nodup.mem_erase_iff hn).1 hx
    have h2:=hr x h1.2
    have h3:=h1.1
    omega)
   rw[List.length_erase_of_mem hm] at ih
   omega
  ·have ih:=nodup_range N l hn (fun x hx=>by
    have h2:=hr x hx
    have h3:x≠(N:Int):=fun e=>hm (by rw[←e];exact hx)
    omega)
   omega
theorem JA {W w:World} {A:aH} {b:Nat} {f:Int→Option Value} {n:Nat} (N:Nat) (h:Sat W w (sep (jO b f n) A)) (hf:∀k,(f k).isSome=true→0≤k∧k<N):n≤N:=by
 obtain⟨es,clock,h1,h2,-,-⟩:=h.nS
 have hk:∀e∈es.toList,e.key=.int .i64 (NT e)∧0≤NT e∧NT e<N:=fun e he=>by
  obtain⟨k,hk⟩:=h1.keys e he
  have hz:NT e=k:=by unfold NT;rw[hk]
  rw[hz]
  refine⟨hk,hf k ?_⟩
  rw[h1.qm he hk];rfl
 have:=nodup_range N (es.toList.map NT) (by
  rw[List.Nodup,List.pairwise_map]
  refine List.Pairwise.imp_of_mem ?_ h1.nodup
  intro a b ha hb hne e
  exact hne (by rw[(hk a ha).1,(hk b hb).1,e])) (fun x hx=>by
   obtain⟨e,he,rfl⟩:=List.mem_map.1 hx
   exact (hk e he).2)
 rw[List.length_map,Array.length_toList] at this
 omega
end PA
namespace PA
open Go Go.RowKit
def wm (w:World):Mem:=fun b=>w.heap[b]?
theorem Sat.Um (W:World):Sat W W (sep (kn (wm W)) emp):=
 ⟨rfl,rfl,rfl,wm W,Mem.no,fun _ _ h=>h,fun _ _ h=>h,fun _ _ h=>(by simp[Mem.no] at h),Mem.no,Mem.no,fun _=>.inl rfl,(Mem.pW _).symm,⟨rfl,Mem.le_refl _⟩,rfl⟩
theorem kH {I:Mem} {v:Value} {ns:List Int}:(pF.slice 1).rel I [v] ns↔∃a c,v=.slice a ns.length c∧Cb a ns.length c∧bT a (ns.map iv) I:=by
 constructor
 ·rintro⟨a,c,cells,h1,h2,h3,h4⟩
  cases h1
  rw[(DC _ _ _).1 h4] at h3
  exact⟨a,c,rfl,h2,h3⟩
 ·rintro⟨a,c,rfl,h2,h3⟩
  exact⟨a,c,_,rfl,h2,h3,(DC _ _ _).2 rfl⟩
theorem Jy {w:World} {x:Addr} {us:List Value} (h:∀j u,us[j]?=some u→w.cell? (x.add j)=some u):bT (some x) us (wm w):=by
 cases us with
 | nil=>exact .inl rfl
 | cons u us=>
  right
  have h0:=h 0 u rfl
  have e0:x.add 0=x:=rfl
  rw[e0] at h0
  obtain⟨b,o,sp⟩:=x
  unfold World.cell? at h0
  dsimp only at h0
  cases hb:w.heap[b]? with
  | none=>rw[hb] at h0;cases h0
  | some ob=>
   rw[hb] at h0
   cases ob with
   | cells c t f=>
    dsimp only at h0
    cases sp with
    | some q=>simp at h0
    | none=>
     refine⟨b,o,c,t,f,rfl,hb,fun i v hv=>?_⟩
     have hi:=h i v hv
     have e:(⟨b,o,none⟩:Addr).add i=⟨b,o+i,none⟩:=by unfold Addr.add;split<;>simp_all
     rw[e] at hi
     unfold World.cell? at hi
     dsimp only at hi
     rw[hb] at hi
     simpa using hi
   | _=>cases h0
end PA
namespace Go.Proofs.YtgicfogmdfdjmaaGreatDoor
open Go.RowKit PA
def GN (n:Int):Prop:=-9223372036854775808≤n∧n≤9223372036854775807
def P5 (w:World) (a:Option Addr) (len cap:Nat) (zs:List Int):Prop:=
 (a=none∧len=0∧cap=0∧zs=[]) ∨
 ∃x,a=some x∧len≤cap∧cap≤maxLen∧zs.length=cap∧(∀i,i<zs.length→w.cell? (x.add i)=some (.int .i64 (zs.getD i 0)))∧∀n∈zs,(Lit.int .i64 n).wf=true
theorem argI {w:World} {a:Option Addr} {len cap:Nat} {zs:List Int} (h:P5 w a len cap zs):
 ∃l:List Int,len=l.length∧(pF.slice 1).rel (wm w) [.slice a len cap] l∧∀n∈l,GN n:=by
 rcases h with ⟨rfl,rfl,rfl,rfl⟩|⟨x,rfl,h1,h2,h3,h4,h5⟩
 ·exact⟨[],rfl,kH.2 ⟨none,0,rfl,⟨Nat.le_refl _,Nat.zero_le _,fun _=>rfl⟩,.inl rfl⟩,fun n hn=>by cases hn⟩
 ·have hl:len=(zs.take len).length:=by simp;omega
  refine⟨zs.take len,hl,kH.2 ⟨some x,cap,by rw[←hl],⟨by rw[←hl];exact h1,h2,fun e=>by cases e⟩,Jy fun j u hu=>?_⟩,fun n hn=>?_⟩
  ·rw[List.getElem?_map,List.getElem?_take] at hu
   split at hu
   ·rename_i hj
    have hjz:j<zs.length:=by omega
    rw[List.getElem?_eq_getElem hjz] at hu
    rw[h4 j hjz,←hu,List.getD_eq_getElem?_getD,List.getElem?_eq_getElem hjz]
    rfl
   ·cases hu
  ·exact wK (h5 n (List.mem_of_mem_take hn))
end Go.Proofs.YtgicfogmdfdjmaaGreatDoor
namespace PA
open Go Go.RowKit
def C9 (N:Nat) (f:Nat→Rt):List Value:=(List.range N).flatMap fun i=>[.int .i64 (f i).n,.int .i64 (f i).d]
def qG (f:Nat→Rt) (i:Nat) (r:Rt):Nat→Rt:=fun k=>if k=i then r else f k
theorem wZ (N:Nat) (f:Nat→Rt):C9 (N+1) f=C9 N f++[.int .i64 (f N).n,.int .i64 (f N).d]:=by
 unfold C9
 rw[List.range_succ,List.flatMap_append]
 simp
theorem qH (N:Nat) (f:Nat→Rt):(C9 N f).length=N*2:=by
 induction N with
 | zero=>rfl
 | succ N ih=>rw[wZ,List.length_append,ih];simp;omega
theorem MZ:∀(N:Nat) (f:Nat→Rt) (i:Nat),i<N→(C9 N f)[i*2]?=some (.int .i64 (f i).n)∧(C9 N f)[i*2+1]?=some (.int .i64 (f i).d)
 | 0,_,_,h=>by omega
 | N+1,f,i,h=>by
  rw[wZ]
  by_cases hi:i<N
  ·have:=MZ N f i hi
   rw[List.getElem?_append_left (by rw[qH];omega),List.getElem?_append_left (by rw[qH];omega)]
   exact this
  ·obtain rfl:i=N:=by omega
   rw[List.getElem?_append_right (by rw[qH];omega),List.getElem?_append_right (by rw[qH];omega),qH,Nat.sub_self,Nat.add_sub_cancel_left]
   exact⟨rfl,rfl⟩
section
variable {W w:World} {A:aH} {t g N:Nat} {f:Nat→Rt}
end
end PA
namespace PA
open Go Go.RowKit
section
variable {α:Type} {F:Fence} {P:Program}
end
end PA

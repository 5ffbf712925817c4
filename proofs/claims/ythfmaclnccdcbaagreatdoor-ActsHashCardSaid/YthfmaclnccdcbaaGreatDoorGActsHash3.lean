/- Part of a proof. -/
import Derived.Test.YthfmaclnccdcbaaGreatDoorGActsHash2
import Derived.Lib.AppendStr
import Derived.RangeFuncNested
import Derived.RangeFuncBound
import Derived.RangeFuncCalls
import Derived.RangeFuncLeaves
import Derived.Shelf.Abstract
import Derived.Shelf.RegionOpen
import Derived.OwnWalkIn
import Derived.TacticsInMore
import Derived.LoopNIn
import Derived.LoopIn
import Derived.RangeFuncBox
import Derived.Maps.AppendAt
namespace PA
open Go Go.RowKit
section
variable {P:Program} {ops:Array Oper} {Q:Exit→Act→World→Prop} {S:World→Prop} {W:World}
theorem xq {o:Oper} {a:Act} {Pre:aA} {Post:Value→aA} (hg:Region.wanted o (yielded ops a.tmps)=true) (f:FuncId) (args:Array Value) (hr:∀w,(execOp a.eval o).run P w=.ok (.enter f args) w)
 (hc:∀(w:World) (A:aA),Sat W w (sep Pre A)→Calls P f args w fun e w'=>∃v,e=.returned v∧Sat W w' (sep (Post v) A)):iQ P ops W o a Pre Post:=
 ⟨hg,fun w A h=>.inr ⟨f,args,w,hr w,hc w A h⟩⟩
theorem yO {o:Oper} {a:Act} {ob:Obj} (hg:Region.wanted o (yielded ops a.tmps)=true) (hr:∀w,(execOp a.eval o).run P w=.ok (.value (.pointer (some ⟨w.heap.size,0,none⟩))) (w.alloc ob)):
 iQ P ops W o a emp (fun v=>ex fun g:Nat=>sep (fact (v=.pointer (some ⟨g,0,none⟩))) (blk g ob)):=
 ⟨hg,fun w A h=>.inl ⟨_,_,hr w,by
  rw[iM] at h;rw[fP,Sat.ex];exact⟨w.heap.size,by rw[aj];exact Sat.fact.2 ⟨rfl,h.alloc ob⟩⟩⟩⟩
def LZ (Pre Mid Post:aA) (v1 v2:Value) (Et:List Value):List Value→aA
 | []=>Pre
 | [u]=>sep (fact (u=v1)) Mid
 | u::x::r=>sep (fact (u=v1∧x=v2∧r=Et.take r.length)) Post
theorem QT {Pre Mid Post:aA} {v1 v2:Value} {Et:List Value} {a0:Act} {i j:Nat} {js:List Nat} {oi oj:Oper} {di:Option Tmp} (hdi:aS ops i=di) (hoi:ops[i]?=some oi) (hsi:∀cs b,oi.op≠.select cs b) (hoj:ops[j]?=some oj) (hsj:∀cs b,oj.op≠.select cs b)
 (hb:((Region.before ops).getD j 0).testBit i=true) (h1:iQ P ops W oi a0 Pre (fun v=>sep (fact (v=v1)) Mid)) (h2:iQ P ops W oj (a0.put di v1) Mid (fun v=>sep (fact (v=v2)) Post))
 (hw2:∀v,Region.wanted oj (yielded ops (a0.put di v).tmps)=true) (hpl:js.all (og ops)=true) (hF:xU P ops ((a0.put di v1).put (aS ops j) v2) js Et):
 zS P ops W a0 (LZ Pre Mid Post v1 v2 Et) [] [(i,[]),(j,js)]:=by
 subst hdi;refine⟨⟨oi,hoi,hsi,h1⟩,fun y hy=>?_,fun j hj=>(by cases hj),fun v w B h=>⟨[],trivial,h⟩,fun v us hus=>?_⟩
 ·rw[List.mem_singleton.1 hy];exact hb
 ·have ad1:us=[]:=List.eq_nil_of_length_eq_zero hus
  subst ad1;refine⟨⟨oj,hoj,hsj,hw2 v,fun w A hS=>?_⟩,fun y hy=>(by cases hy),fun k hk=>List.all_eq_true.1 hpl k hk,fun v' w B h=>?_,fun _ _ _=>trivial⟩
  ·have hS':Sat W w (sep (sep (fact (v=v1)) Mid) A):=hS
   rw[aj] at hS';obtain⟨rfl,hS2⟩:=Sat.fact.1 hS';have conv:∀(v':Value) (w':World),Sat W w' (sep (sep (fact (v'=v2)) Post) A)→Sat W w' (sep (LZ Pre Mid Post v v2 Et ([v]++[v'])) A):=fun v' w' h=>by
    show Sat W w' (sep (sep (fact (v=v∧v'=v2∧[]=Et.take ([]:List Value).length)) Post) A);rw[aj] at h ⊢;obtain⟨h1,h2⟩:=Sat.fact.1 h;exact Sat.fact.2 ⟨⟨rfl,h1,by simp⟩,h2⟩
   rcases h2.2 w A hS2 with ⟨v',w',h3,h4⟩|⟨f,args,w1,h3,h4⟩
   ·exact .inl ⟨v',w',h3,conv v' w' h4⟩
   ·refine .inr ⟨f,args,w1,h3,h4.mono ?_⟩
    rintro e w' ⟨v',rfl,h5⟩;exact⟨v',rfl,conv v' w' h5⟩
  ·have h':Sat W w (sep (sep (fact (v=v1∧v'=v2∧[]=Et.take ([]:List Value).length)) Post) B):=h
   rw[aj] at h';obtain⟨⟨rfl,rfl,-⟩,h3⟩:=Sat.fact.1 h';refine⟨Et,hF,?_⟩;show Sat W w (sep (sep (fact (v=v∧v'=v'∧Et=Et.take Et.length)) Post) B);rw[aj];exact Sat.fact.2 ⟨⟨rfl,rfl,by rw[List.take_length]⟩,h3⟩
theorem RJ {Pre Mid Post:aA} {v1 v2:Value} {Et:List Value} {A:aA} {w:World} {i j:Nat} {js:List Nat} {dn:List (Nat×Value)} (hdn:dn.map (·.1)=i::j::js) (hl:Et.length=js.length)
 (h:Sat W w (sep (LZ Pre Mid Post v1 v2 Et (dn.map (·.2))) A)):dn=(i,v1)::(j,v2)::js.zip Et∧Sat W w (sep Post A):=by
 match dn,hdn with
 | (i',u)::(j',x)::dn,hdn=>
  simp only[List.map_cons,List.cons.injEq] at hdn;obtain⟨rfl,rfl,hj⟩:=hdn;have h':Sat W w (sep (sep (fact (u=v1∧x=v2∧dn.map (·.2)=Et.take (dn.map (·.2)).length)) Post) A):=h;rw[aj] at h';obtain⟨⟨rfl,rfl,h2⟩,h3⟩:=Sat.fact.1 h';refine⟨?_,h3⟩;have hlen:(dn.map (·.2)).length=Et.length:=by rw[hl,←hj];simp
  rw[hlen,List.take_length] at h2;rw[←h2,←hj];congr 1;congr 1;clear h2 hlen h h' h3 hj hl
  induction dn with
  | nil=>rfl
  | cons z dn ih=>simp[←ih]
end
end PA
namespace PA
section
variable {α:Type}
def Ee (f:Nat→α) (i j:Nat):Nat→α:=fun k=>if k=i then f j else if k=j then f i else f k
inductive Sw (a b:Nat) (f:Nat→α):(Nat→α)→Prop where
 | refl:Sw a b f f
 | step (g:Nat→α) (i j:Nat):Sw a b f g→a≤i→i<b→a≤j→j<b→Sw a b f (Ee g i j)
theorem Sw.trans {a b:Nat} {f g h:Nat→α} (h1:Sw a b f g) (h2:Sw a b g h):Sw a b f h:=by
 induction h2 with
 | refl=>exact h1
 | step g' i j _ p1 p2 p3 p4 ih=>exact .step g' i j ih p1 p2 p3 p4
theorem Sw.mono {a b a' b':Nat} {f g:Nat→α} (h1:a'≤a) (h2:b≤b') (h:Sw a b f g):Sw a' b' f g:=by
 induction h with
 | refl=>exact .refl
 | step g' i j _ p1 p2 p3 p4 ih=>exact .step g' i j ih (by omega) (by omega) (by omega) (by omega)
theorem Sw.out {a b:Nat} {f g:Nat→α} (h:Sw a b f g) {k:Nat} (hk:k<a∨b≤k):g k=f k:=by
 induction h with
 | refl=>rfl
 | step g' i j _ p1 p2 p3 p4 ih=>
  unfold Ee;rw[if_neg (by omega),if_neg (by omega)];exact ih
theorem Sw.at {a b:Nat} {f g:Nat→α} (h:Sw a b f g):∀k,a≤k→k<b→∃j,a≤j∧j<b∧g k=f j:=by
 induction h with
 | refl=>exact fun k h1 h2=>⟨k,h1,h2,rfl⟩
 | step g' i j _ p1 p2 p3 p4 ih=>
  intro k h1 h2;unfold Ee;split
  ·exact ih j p3 p4
  ·split
   ·exact ih i p1 p2
   ·exact ih k h1 h2
def Sz (f:Nat→α) (a b:Nat):Nat→Nat→α
 | 0=>f
 | n+1=>Ee (Sz f a b n) (a+n) (b+n)
theorem Eb (f:Nat→α) (a b:Nat):∀n,a+n≤b→∀k,Sz f a b n k=if a≤k∧k<a+n then f (b+(k-a)) else if b≤k∧k<b+n then f (a+(k-b)) else f k
 | 0,h,k=>by rw[Sz,if_neg (by omega),if_neg (by omega)]
 | n+1,h,k=>by
  have ih:=Eb f a b n (by omega);have e0:Sz f a b (n+1) k=if k=a+n then Sz f a b n (b+n) else if k=b+n then Sz f a b n (a+n) else Sz f a b n k:=rfl
  rw[e0,ih k,ih (a+n),ih (b+n)]
  (repeat' split)<;>first|rfl|(exfalso;omega)|(congr 1;omega)
theorem OT (f:Nat→α) (a b lo hi:Nat) (h1:lo≤a) (h2:lo≤b):∀n,a+n≤hi→b+n≤hi→Sw lo hi f (Sz f a b n)
 | 0,_,_=>.refl
 | n+1,h3,h4=>.step _ _ _ (OT f a b lo hi h1 h2 n (by omega) (by omega)) (by omega) (by omega) (by omega) (by omega)
def V3 (f:Nat→α) (a m b:Nat) (g:Nat→α):Prop:=(∀t,t<b-m→g (a+t)=f (m+t))∧(∀t,t<m-a→g (a+(b-m)+t)=f (a+t))∧∀k,k<a∨b≤k→g k=f k
structure Nj (f:Nat→α) (a m b i j:Nat) (g:Nat→α):Prop where
 hi:i≤m-a
 hj:j≤b-m
 ok:∀T:Nat→α,V3 f a m b T→(∀k,k<m-i∨m+j≤k→g k=T k)∧(∀t,t<j→T (m-i+t)=g (m+t))∧(∀t,t<i→T (m-i+j+t)=g (m-i+t))
 sw:Sw a b f g
theorem Nj.start (f:Nat→α) (a m b:Nat) (h1:a≤m) (h2:m≤b):Nj f a m b (m-a) (b-m) f:=by
 refine⟨Nat.le_refl _,Nat.le_refl _,fun T hT=>⟨fun k hk=>(hT.2.2 k (by omega)).symm,fun t ht=>?_,fun t ht=>?_⟩,.refl⟩
 ·rw[←hT.1 t ht];congr 1;omega
 ·rw[show m-(m-a)+(b-m)+t=a+(b-m)+t by omega,hT.2.1 t ht];congr 1;omega
theorem Nj.small {f g:Nat→α} {a m b i j:Nat} (h:Nj f a m b i j g) (h1:a≤m) (h2:m≤b) (hij:i<j):Nj f a m b i (j-i) (Sz g (m-i) (m+j-i) i):=by
 have hi:=h.hi;have hj:=h.hj;have hs:=Eb g (m-i) (m+j-i) i (by omega);refine⟨hi,by omega,fun T hT=>?_,h.sw.trans (OT g (m-i) (m+j-i) a b (by omega) (by omega) i (by omega) (by omega))⟩;obtain⟨o1,o2,o3⟩:=h.ok T hT;refine⟨fun k hk=>?_,fun t ht=>?_,fun t ht=>?_⟩
 ·rw[hs k]
  by_cases e1:m+j-i≤k∧k<m+j-i+i
  ·rw[if_neg (by omega),if_pos e1,←o3 (k-(m+j-i)) (by omega)];congr 1;omega
  ·rw[if_neg (by omega),if_neg e1];exact o1 k (by omega)
 ·rw[hs (m+t),if_neg (by omega),if_neg (by omega)]
  exact o2 t (by omega)
 ·rw[hs,if_pos (by omega)]
  have:=o2 (j-i+t) (by omega);rw[show m-i+(j-i)+t=m-i+(j-i+t) by omega,this];congr 1;omega
theorem Nj.done {f g:Nat→α} {a m b i:Nat} (h:Nj f a m b i i g) (h1:a≤m) (h2:m≤b):V3 f a m b (Sz g (m-i) m i)∧Sw a b f (Sz g (m-i) m i):=by
 have hi:=h.hi;have hj:=h.hj;have hs:=Eb g (m-i) m i (by omega);refine⟨?_,h.sw.trans (OT g (m-i) m a b (by omega) (by omega) i (by omega) (by omega))⟩;have hex:∃T,V3 f a m b T:=⟨fun k=>if k<a∨b≤k then f k else if k<a+(b-m) then f (m+(k-a)) else f (a+(k-(a+(b-m)))),fun t ht=>by
  simp only[];rw[if_neg (by omega),if_pos (by omega)];congr 1;omega,fun t ht=>by
  simp only[];rw[if_neg (by omega),if_neg (by omega)];congr 1;omega,fun k hk=>by simp only[];rw[if_pos hk]⟩
 obtain⟨T,hT⟩:=hex;obtain⟨o1,o2,o3⟩:=h.ok T hT;have e:Sz g (m-i) m i=T:=by
  funext k;rw[hs k]
  by_cases e1:m-i≤k∧k<m-i+i
  ·rw[if_pos e1,←o2 (k-(m-i)) (by omega)];congr 1;omega
  ·rw[if_neg e1]
   by_cases e2:m≤k∧k<m+i
   ·rw[if_pos e2]
    have:=o3 (k-m) (by omega);rw[←this];congr 1;omega
   ·rw[if_neg e2];exact o1 k (by omega)
 rw[e];exact hT
variable (c:α→α→Int)
def sF (a b:Nat) (f:Nat→α):Prop:=∀i j,a≤i→i<j→j<b→c (f i) (f j)≤0
structure Total (c:α→α→Int):Prop where
 trans:∀x y z,c x y≤0→c y z≤0→c x z≤0
 flip:∀x y,c y x=-c x y
variable {c}
theorem sF.sub {a b a' b':Nat} {f:Nat→α} (h:sF c a b f) (h1:a≤a') (h2:b'≤b):sF c a' b' f:=fun i j p1 p2 p3=>h i j (by omega) p2 (by omega)
theorem sF.congr {a b:Nat} {f g:Nat→α} (h:sF c a b f) (e:∀k,a≤k→k<b→g k=f k):sF c a b g:=fun i j p1 p2 p3=>by rw[e i p1 (by omega),e j (by omega) p3];exact h i j p1 p2 p3
theorem sF.list {n:Nat} {f:Nat→α} (h:sF c 0 n f):((List.range n).map f).Pairwise fun x y=>c x y≤0:=by
 rw[List.pairwise_map];refine List.Pairwise.imp_of_mem (R:=fun i j=>i<j) ?_ List.pairwise_lt_range;intro i j _ hj hij;exact h i j (by omega) hij (by simpa using hj)
theorem Uy {a j b:Nat} {f:Nat→α} (hT:Total c) (h1:sF c a j f) (h2:sF c j b f) (h3:∀p q,a≤p→p<j→j<q→q<b→c (f p) (f q)≤0) (hj:j=a∨0≤c (f j) (f (j-1))) (hab:a≤j) (hjb:j<b):sF c a b f:=by
 intro p q hp hpq hq;rcases Nat.lt_or_ge q j with e|e
 ·exact h1 p q hp hpq e
 ·rcases Nat.lt_or_ge p j with e2|e2
  ·rcases Nat.lt_or_ge j q with e3|e3
   ·exact h3 p q hp e2 e3 hq
   ·obtain rfl:q=j:=by omega
    rcases hj with e4|e4
    ·omega
    ·have hlast:c (f (q-1)) (f q)≤0:=by have:=hT.flip (f (q-1)) (f q);omega
     rcases Nat.lt_or_ge p (q-1) with e5|e5
     ·exact hT.trans _ _ _ (h1 p (q-1) hp e5 (by omega)) hlast
     ·obtain rfl:p=q-1:=by omega
      exact hlast
  ·exact h2 p q e2 hpq hq
structure Nh (c:α→α→Int) (a i j:Nat) (f:Nat→α):Prop where
 lo:sF c a j f
 hi:sF c j (i+1) f
 ac:∀p q,a≤p→p<j→j<q→q<i+1→c (f p) (f q)≤0
theorem Nh.start {a i:Nat} {f:Nat→α} (h:sF c a i f):Nh c a i i f:=⟨h,fun p q p1 p2 p3=>by omega,fun p q p1 p2 p3 p4=>by omega⟩
theorem Nh.step {a i j:Nat} {f:Nat→α} (h:Nh c a i j f) (h1:a<j) (h2:j≤i) (hlt:c (f j) (f (j-1))<0):Nh c a i (j-1) (Ee f j (j-1)):=by
 have e1:∀k,k<j-1→Ee f j (j-1) k=f k:=fun k hk=>by unfold Ee;rw[if_neg (by omega),if_neg (by omega)]
 have e2:Ee f j (j-1) (j-1)=f j:=by unfold Ee;rw[if_neg (by omega),if_pos rfl]
 have e3:Ee f j (j-1) j=f (j-1):=by unfold Ee;rw[if_pos rfl]
 have e4:∀k,j<k→Ee f j (j-1) k=f k:=fun k hk=>by unfold Ee;rw[if_neg (by omega),if_neg (by omega)]
 refine⟨fun p q p1 p2 p3=>?_,fun p q p1 p2 p3=>?_,fun p q p1 p2 p3 p4=>?_⟩
 ·rw[e1 p (by omega),e1 q (by omega)];exact h.lo p q p1 p2 (by omega)
 ·rcases Nat.lt_trichotomy p j with x|x|x
  ·obtain rfl:p=j-1:=by omega
   rw[e2];rcases Nat.lt_trichotomy q j with y|y|y
   ·omega
   ·subst y;rw[e3];omega
   ·rw[e4 q y];exact h.hi j q (Nat.le_refl _) y p3
  ·subst x
   rw[e3,e4 q p2];exact h.ac (p-1) q (by omega) (by omega) p2 p3
  ·rw[e4 p x,e4 q (by omega)];exact h.hi p q (by omega) p2 p3
 ·rw[e1 p (by omega)]
  rcases Nat.lt_trichotomy q j with y|y|y
  ·omega
  ·subst y;rw[e3];exact h.lo p (q-1) p1 (by omega) (by omega)
  ·rw[e4 q y];exact h.ac p q p1 (by omega) y p4
theorem Nh.stop {a i j:Nat} {f:Nat→α} (hT:Total c) (h:Nh c a i j f) (h1:a≤j) (h2:j≤i) (hj:j=a∨0≤c (f j) (f (j-1))):sF c a (i+1) f:=Uy hT h.lo h.hi h.ac hj h1 (by omega)
def DF (D:α→α→Prop) (n:Nat) (f:Nat→α):Prop:=∀i j,i<n→j<n→i≠j→D (f i) (f j)
theorem DF.sw1 {D:α→α→Prop} {n:Nat} {f:Nat→α} (h:DF D n f) {i j:Nat} (hi:i<n) (hj:j<n):DF D n (Ee f i j):=by
 intro p q hp hq hne;unfold Ee
 (repeat' split)<;>first|(exfalso;omega)|(apply h<;>omega)|skip
 all_goals (subst_vars;first|(exfalso;omega)|(apply h<;>omega))
theorem DF.sw {D:α→α→Prop} {n a b:Nat} {f g:Nat→α} (h:DF D n f) (hs:Sw a b f g) (hb:b≤n):DF D n g:=by
 induction hs with
 | refl=>exact h
 | step g' i j _ p1 p2 p3 p4 ih=>exact ih.sw1 (by omega) (by omega)
theorem Ot [Inhabited α] (l:List α):(List.range l.length).map (fun i=>l.getD i default)=l:=by
 apply List.ext_getElem
 ·simp
 ·intro i h1 h2
  simp[List.getElem?_eq_getElem h2]
end
end PA
namespace PA
section
variable {α:Type} {c:α→α→Int}
theorem V3.up {f g:Nat→α} {a k:Nat} (h:V3 f a (a+1) (k+1) g) (hk:a≤k):V3 f a (a+1) (k+2) (Ee g k (k+1)):=by
 obtain⟨g1,g2,g3⟩:=h;have e2:g k=f a:=by have:=g2 0 (by omega);rw[show a+(k+1-(a+1))+0=k by omega] at this;exact this
 refine⟨fun t ht=>?_,fun t ht=>?_,fun x hx=>?_⟩
 ·unfold Ee
  by_cases e:a+t=k
  ·rw[if_pos e,g3 (k+1) (.inr (Nat.le_refl _))];congr 1;omega
  ·rw[if_neg e,if_neg (by omega)];exact g1 t (by omega)
 ·unfold Ee
  rw[if_neg (by omega),if_pos (by omega),e2];congr 1;omega
 ·unfold Ee
  rw[if_neg (by omega),if_neg (by omega)];exact g3 x (by omega)
theorem V3.down {f g:Nat→α} {m k:Nat} (h:V3 f k m (m+1) g) (h0:0<k) (hk:k≤m):V3 f (k-1) m (m+1) (Ee g k (k-1)):=by
 obtain⟨g1,g2,g3⟩:=h;have e2:g k=f m:=g1 0 (by omega);refine⟨fun t ht=>?_,fun t ht=>?_,fun x hx=>?_⟩
 ·unfold Ee
  rw[if_neg (by omega),if_pos (by omega),e2];congr 1;omega
 ·unfold Ee
  by_cases e:k-1+(m+1-m)+t=k
  ·rw[if_pos e,g3 (k-1) (.inl (by omega))];congr 1;omega
  ·rw[if_neg e,if_neg (by omega)]
   have:=g2 (t-1) (by omega);rw[show k+(m+1-m)+(t-1)=k-1+(m+1-m)+t by omega] at this;rw[this];congr 1;omega
 ·unfold Ee
  rw[if_neg (by omega),if_neg (by omega)];exact g3 x (by omega)
structure Bs (c:α→α→Int) (lo hi i j:Nat) (f:Nat→α) (x:α):Prop where
 h1:lo≤i
 h2:i≤j
 h3:j≤hi
 lo:∀k,lo≤k→k<i→c (f k) x≤0
 up:∀k,j≤k→k<hi→0≤c (f k) x
theorem Bs.start {lo hi:Nat} (h:lo≤hi) (f:Nat→α) (x:α):Bs c lo hi lo hi f x:=⟨Nat.le_refl _,h,Nat.le_refl _,fun k p1 p2=>by omega,fun k p1 p2=>by omega⟩
theorem Bs.right {lo hi i j:Nat} {f:Nat→α} {x:α} (hT:Total c) (hs:sF c lo hi f) (h:Bs c lo hi i j f x) {m:Nat} (h1:i≤m) (h2:m<j) (hm:c (f m) x≤0):Bs c lo hi (m+1) j f x:=by
 refine⟨by have:=h.h1;omega,by omega,h.h3,fun k p1 p2=>?_,h.up⟩;rcases Nat.lt_or_ge k m with e|e
 ·exact hT.trans _ _ _ (hs k m p1 e (by have:=h.h3;omega)) hm
 ·obtain rfl:k=m:=by omega
  exact hm
theorem Bs.left {lo hi i j:Nat} {f:Nat→α} {x:α} (hT:Total c) (hs:sF c lo hi f) (h:Bs c lo hi i j f x) {m:Nat} (h1:i≤m) (h2:m<j) (hm:0≤c (f m) x):Bs c lo hi i m f x:=by
 refine⟨h.h1,h1,by have:=h.h3;omega,h.lo,fun k p1 p2=>?_⟩;rcases Nat.lt_or_ge m k with e|e
 ·have h3:=hs m k (by have:=h.h1;omega) e p2
  have h4:=hT.flip (f m) x;have h5:=hT.trans _ _ _ (show c x (f m)≤0 by omega) h3;have h6:=hT.flip (f k) x;omega
 ·obtain rfl:k=m:=by omega
  exact hm
end
end PA
namespace PA
open Go Go.RowKit
section
variable {P:Program} {W w:World} {A:aA}
theorem o9 (s:ByteArray):Lib.strCells s=s.data.toList.map bv:=rfl
theorem wO (t u ty E:Nat) (i:TypeInfo) (ht:P.underlying t=some (.slice E)) (hu:P.underlying u=some .string) (hi:P.info? E=some i) (hz:i.zero=some (.int .u8 0))
 (hk:i.size=1) (hb:i.bytes=1) {a:Option Addr} {n c:Nat} {xs:List Value} (h:Sat W w (sep (aT E 1 a n c xs) A)) (s:ByteArray) (h63:n+s.size≤140737488355328):
 ∃a' c' w',(Builtin.append_ #[t,u] ty #[.slice a n c,.string s]).run P w=.ok (.slice a' (n+s.size) c') w'∧Sat W w' (sep (aT E 1 a' (n+s.size) c' (xs++s.data.toList.map bv)) A):=by
 have hsl:(s.data.toList.map bv).length=s.size:=by simp
 have hmx:n+s.size≤maxLen:=by unfold maxLen;omega
 rcases h.gY with ⟨rfl,rfl,rfl,rfl,h0⟩|⟨g,cur,rfl,hlen,hnc,hcm,hcs,htake,hS⟩
 ·by_cases hm:s.size=0
  ·have hn:s.data.toList.map bv=[]:=List.eq_nil_of_length_eq_zero (by rw[hsl];exact hm)
   refine⟨none,0,w,?_,by rw[hm,hn];exact h⟩;have hf:=Lib.run_firstCells_string (P:=P) w 1 s;rw[hm] at hf;simp[Builtin.append_,run_underlying ht,run_underlying hu,Go.sizeOf,typeInfo,hi,hk,Builtin.lenOf,hm,hf]
  ·have hr:=run_append_nil_string (P:=P) w t u ty E i (.int .u8 0) ht hu hi hz s (by omega) (by omega) (by rw[hb];omega)
   have e1:(s.data.map fun b=>Value.int .u8 b.toNat)=(s.data.toList.map bv).toArray:=by
    apply Array.ext';simp[bv]
   rw[e1] at hr;have hcap:=jP w s.size 0 E (by omega);refine⟨_,_,_,by rw[Nat.zero_add];exact hr,?_⟩;refine ((h0.drew.alloc _).lT (0+s.size) _ 1 ([]++s.data.toList.map bv) (by simp) (by omega) hcap.2 ?_ ?_)
   ·have hz1:(Value.int IntKind.u8 0).cells.size=1:=rfl
    simp only[Array.size_append,List.size_toArray,iR,hz1,hsl];omega
   ·simp
 ·simp only[Nat.mul_one] at hlen hcs htake
  by_cases hroom:n+s.size≤c
  ·have hr:=Lib.run_append_room_string (P:=P) w t u ty E i ht hu hi hk g n c cur hS.aO s hroom (by omega)
   refine⟨_,_,_,hr,(hS.setRow _).lT (n+s.size) c 1 _ (by rw[dD,hlen,hsl];omega) hroom hcm ?_ ?_⟩
   ·simp only[o9,List.size_toArray,dD,List.length_take,List.length_drop,Array.length_toList,hsl]
    omega
   ·rw[o9,htake]
    have hl2:(xs++s.data.toList.map bv).length=(n+s.size)*1:=by rw[dD,hlen,hsl];omega
    rw[←hl2];exact List.take_left
  ·have hr:=Lib.run_append_grow_string (P:=P) w t u ty E i (.int .u8 0) ht hu hi hz ⟨g,0,none⟩ n c xs (by rw[hk];omega) (fun j u hu=>by
    obtain⟨g',e,hc⟩:=h.Iu (fun e=>by rw[e] at hu;simp at hu);cases e;have:=hc j u hu;unfold Addr.add;split
    ·rename_i e;subst e;exact this
    ·simpa using this) s (by omega) (by omega) (by rw[hb];exact growslice_fits (by omega) (by omega))
   have hcap:=jP w (n+s.size) c E hmx;refine⟨_,_,_,hr,((hS.forget.drew).alloc _).lT (n+s.size) _ 1 _ (by rw[dD,hlen,hsl];omega) hcap.1 hcap.2 ?_ ?_⟩
   ·have hz1:(Value.int IntKind.u8 0).cells.size=1:=rfl
    simp only[o9,Array.size_append,List.size_toArray,iR,hz1,hsl,hlen];omega
   ·have hl2:(xs++s.data.toList.map bv).length=(n+s.size)*1:=by rw[dD,hlen,hsl];omega
    rw[←hl2,o9];simp only[Array.toList_append,List.append_assoc];rw[←List.append_assoc];exact List.take_left
theorem wS {ops:Array Oper} {rest:List Oper} {o:Oper} {ac:Act} {Q:Exit→Act→World→Prop} (hgd:o.guard=none) (sl y:Operand) (t u:TypeId)
 (ho:o.op=.call { callee:=.builtin .append,args:=#[sl,y],argTypes:=#[t,u] })
 (E:Nat) (ht:P.underlying t=some (.slice E)) (hu:P.underlying u=some .string) (hi:(P.info? E).map (fun i=>(i.zero,i.size,i.bytes))=some (some (.int .u8 0),1,1))
 {a:Option Addr} {n c:Nat} {xs:List Value} (hs:ac.eval sl=.slice a n c) (h:Sat W w (sep (aT E 1 a n c xs) A))
 (s:ByteArray) (hy:ac.eval y=.string s) (h63:n+s.size≤140737488355328)
 (hK:∀a' c' w',Sat W w' (sep (aT E 1 a' (n+s.size) c' (xs++s.data.toList.map bv)) A)→wpList P ops Q rest (ac.put o.dst (.slice a' (n+s.size) c')) w'):wpList P ops Q (o::rest) ac w:=by
 obtain⟨i,hi1,hi2,hi3,hi4⟩:=info_parts hi;obtain⟨a',c',w',hr,hS⟩:=wO t u o.type E i ht hu hi1 hi2 hi3 hi4 h s h63;refine wpList_plain hgd fun _ hk=>zi ?_ (hk _ _ (hK _ _ _ hS))
 simp only[execOp,ho,resolve,invoke,builtin];simp[hs,hy,hr]
end
end PA
namespace Go.Proofs.YthfmaclnccdcbaaGreatDoor
open Go.RowKit PA
theorem _root_.PA.o8 {k:IntKind} {a b:Int} (h:a=b):Ending.returned (.int k a)=.returned (.int k b):=by rw[h]
theorem Dn (s x:Nat) (w:World) (hs:s<18446744073709551616) (hx:x<18446744073709551616):Calls Tryz.prog 135 #[.int .u64 s,.int .u64 x] w fun e w'=>e=.returned (.int .u64 (jq s x:Nat))∧w=w':=by
 go_enter Tryz.func135,Tryz.ntmps135
 go_wp2
 go_ret
 exact⟨o8 (Ik s x hs hx),rfl⟩
theorem qw (s x:Nat) (w:World) (hs:s<18446744073709551616) (hx:x<18446744073709551616):Calls Tryz.prog 142 #[.int .u64 s,.int .u64 x] w fun e w'=>e=.returned (.int .u64 (jq s x:Nat))∧w=w':=by
 have hv:=Ik s x hs hx;have e:(IntKind.u64.wrap (bits .xor .u64 (s:Int) (x:Int)*11400714819323198485)).tdiv 4294967296=IntKind.u64.wrap (bits .xor .u64 (s:Int) (x:Int)*11400714819323198485) / 4294967296:=by
  rw[Int.tdiv_eq_ediv_of_nonneg (by rw[IntKind.wrap_u64];omega)]
 have e2:IntKind.u64.wrap (IntKind.u64.wrap (bits .xor .u64 (s:Int) (x:Int)*11400714819323198485) / 4294967296)=IntKind.u64.wrap (bits .xor .u64 (s:Int) (x:Int)*11400714819323198485) / 4294967296:=by
  simp only[IntKind.wrap_u64];omega
 have H:=ah hv;have H1:=ah e;have H2:=ah e2;clear hv e e2
 go_enter Tryz.func142,Tryz.ntmps142
 go_wp2
 go_ret
 exact⟨o8 (by show bits .xor .u64 _ (IntKind.u64.wrap (Int.tdiv _ _))=_;rw[H1.out,H2.out];exact H.out),rfl⟩
def Jt (n B:Nat) (W W':World):Prop:=Below n W W'∧W'.cell? ⟨B,0,none⟩=W.cell? ⟨B,0,none⟩
theorem Jt.refl (n B:Nat) (W:World):Jt n B W W:=⟨Below.refl _ _,rfl⟩
theorem Jt.trans {n B:Nat} {W W' W'':World} (h:Jt n B W W') (k:Jt n B W' W''):Jt n B W W'':=⟨h.1.trans k.1,k.2.trans h.2⟩
attribute [local go_sem] Oper.semAt_some
set_option maxRecDepth 100000 in
set_option maxHeartbeats 2000000 in
theorem OX (F:Fence) (n:Nat) (hF:F.fn 176) (hro:F.round=none) (hn:1≤n) (l Bs n₀:Nat) (s:ByteArray) (hlen:s.size≤4611686018427387904) (J Jx:List V6→World→Prop)
 (hY:∀pre x W,J pre W→pre.length<(s.size+7) / 8→YieldAt F (n-1) Tryz.prog l #[.int .u64 ((x:V6).1:Nat)] W fun e W'=>
  (e=.returned (.bool true)∧J (pre++[x]) W'∧Jt n₀ Bs W W')∨(e=.returned (.bool false)∧Jx (pre++[x]) W'))
 (W:World) (hBs:W.cell? ⟨Bs,0,none⟩=some (.string s)) (h0:J [] W):
 CallsIn F n Tryz.prog 176 #[.func (.yield l) #[] #[],.pointer (some ⟨Bs,0,none⟩)] W fun e W'=>(∃v,e=.returned v) ∧
  ((∃ys,ys=iU s.data.toList∧J ys W')∨(∃pre,(∃k,pre=(iU s.data.toList).take k)∧Jx pre W')):=by
 refine callsIn_of_wp Tryz.func176 rfl hF ?_ hro;simp only[Tryz.ntmps176,List.size_toArray,List.length_cons,List.length_nil,Nat.reduceAdd,Nat.reduceSub,Array.replicate_succ,Array.replicate_zero,List.push_toArray,List.append_toArray,List.nil_append,List.cons_append]
 gi_wp2
 gi_loopw [3] (fun i wr=>∃k:Nat,k≤(s.size+7) / 8∧i=.int .i64 (8*k:Nat)∧J ((List.range k).map (yt s.data.toList)) wr∧Jt n₀ Bs W wr)
  (fun i _=>s.size+8-(intOf i).toNat)
 case atStart=>exact⟨0,Nat.zero_le _,rfl,h0,Jt.refl _ _ _⟩
 case round=>
  obtain⟨k,hk,rfl,hJs,hnx⟩:=hrel;have hc:wr.cell? ⟨Bs,0,none⟩=some (.string s):=hnx.2.trans hBs;obtain⟨i,hi⟩:=ay (8*k);rw[←hi]
  by_cases hlt:i<s.size
  ·have hi0:(0:Int)≤i:=by omega
   have hi1:(i:Int)+8≤9223372036854775807:=by omega
   have QY:(i:Int)<s.size:=by omega
   obtain⟨e,he⟩:=ay (min (i+8) s.size);have hmin:(if (s.size:Int)<(i:Int)+8 then (s.size:Int) else (i:Int)+8)=(e:Int):=by split<;>omega
   have he1:i≤e∧e≤i+8∧e≤s.size:=by omega
   have HE:=ah he;have HI:=ah hi;have HL:=ah hlen;have HY:=ah hY;have MI:=ah he1;clear hi hlen he he1 hY
   gi_wp2
   gi_loop [4,5] (fun wv kv=>∃j:Nat,i≤j∧j≤e∧kv=.int .i64 (j:Nat)∧wv=.int .u64 (yV ((s.data.toList.drop i).take (j-i)):Nat)) (fun _ kv=>e-(intOf kv).toNat)
   case atStart=>exact⟨i,Nat.le_refl _,MI.out.1,rfl,by simp[yV]⟩
   case round=>
    obtain⟨j,hj1,hj2,rfl,rfl⟩:=hrel;have HJ2:=ah hj2;clear hj2;obtain⟨x,hx⟩:=ay (yV ((s.data.toList.drop i).take (j-i)));rw[←hx];have HX:=ah hx;clear hx
    by_cases hje:j<e
    ·have b1:(j:Int)<e:=by omega
     have b2:j<s.size:=by have:=MI.out;omega
     have b7:(j:Int)<s.size:=by omega
     have b3:(i:Int)≤j:=by omega
     obtain⟨d,hd⟩:=ay (j-i);have b4:(j:Int)-(i:Int)=(d:Int):=by omega
     have b5:(d:Int)<8:=by have:=MI.out;omega
     have b6:(0:Int)≤(d:Int):=by omega
     have HD:=ah hd;clear hd QY hje hlt hk hn
     gi_wp2
     obtain rfl:j=i+d:=by have:=HD.out;omega
     refine⟨⟨i+d+1,by omega,by omega,by go_num,?_⟩,by simp[intOf];omega⟩;have hlen:s.data.toList.length=s.size:=by simp
     rw[HX.out,show i+d+1-i=d+1 by omega,show i+d-i=d by omega,yc _ _ _ (by rw[hlen];omega),←P7 _ _ d (by rw[List.length_take,List.length_drop,hlen];omega) (by omega)];rfl
    ·have b1:¬(j:Int)<e:=by omega
     have hj:j=e:=by have:=HJ2.out;omega
     have hlen:s.data.toList.length=s.size:=by simp
     have hxw:x=uj s.data.toList k:=by
      have:=HE.out;have:=HI.out;rw[HX.out,hj,uj,←HI.out]
      by_cases h8:i+8≤s.size
      ·rw[show e-i=8 by omega]
      ·rw[List.take_of_length_le (by rw[List.length_drop,hlen];omega),List.take_of_length_le (by rw[List.length_drop,hlen];omega)]
     clear hj;obtain⟨fn,tmps,assign,body,hy,hR⟩:=HY.out _ (yt s.data.toList k) wr hJs (by simp;have:=HI.out;omega);dsimp only[yt] at hy;rw[←hxw] at hy;have HXW:=ah hxw;have HLN:=ah hlen;have HN:=ah hnx;clear hxw hlen
     gi_wp2
     refine hR.mono ?_;rintro e' W3 (⟨rfl,hJ3,hk3⟩|⟨rfl,hJx3⟩)
     ·clear hc
      gi_wp2
      go_roundw
      case rel=>exact⟨k+1,by have:=HI.out;omega,by rw[HI.out];go_num,by rw[List.range_succ,lD,List.map_cons,List.map_nil];exact hJ3,HN.out.trans hk3⟩
      case measure=>simp[intOf];omega
     ·gi_wp2
      refine bodyPost_ret (results_none rfl _ _ _) rfl ?_;refine⟨⟨_,rfl⟩,.inr ⟨_,⟨k+1,?_⟩,hJx3⟩⟩;rw[←Ae _ _ (by rw[HLN.out];have:=HI.out;omega),List.range_succ,lD];rfl
  ·have hge:¬(i:Int)<s.size:=by omega
   have hk':k=(s.size+7) / 8:=by omega
   have HK:=ah hk';clear hk' hi
   gi_wp2
   go_end0
   refine⟨⟨_,rfl⟩,.inl ?_⟩;rw[iU,Array.length_toList];show J ((List.range ((s.size+7) / 8)).map _) _;rw[←HK.out];exact hJs
set_option maxRecDepth 100000 in
set_option maxHeartbeats 2000000 in
theorem RS (F:Fence) (n:Nat) (hF:F.fn 133) (hro:F.round=none) (hn:1≤n) (l Bs n₀:Nat) (ad:Option Addr) (cp:Nat) (bs:List UInt8) (hlen:bs.length≤4611686018427387904) (J Jx:List V6→World→Prop)
 (hY:∀pre x W,J pre W→pre.length<(bs.length+7) / 8→YieldAt F (n-1) Tryz.prog l #[.int .u64 ((x:V6).1:Nat)] W fun e W'=>
  (e=.returned (.bool true)∧J (pre++[x]) W'∧Jt n₀ Bs W W')∨(e=.returned (.bool false)∧Jx (pre++[x]) W'))
 (W:World) (hBs:W.cell? ⟨Bs,0,none⟩=some (.slice ad bs.length cp)) (hcs:bs≠[]→∃b o,ad=some ⟨b,o,none⟩∧b<n₀∧∀j (h:j<bs.length),W.cell? ⟨b,o+j,none⟩=some (.int .u8 (bs[j].toNat:Nat))) (h0:J [] W):
 CallsIn F n Tryz.prog 133 #[.func (.yield l) #[] #[],.pointer (some ⟨Bs,0,none⟩)] W fun e W'=>(∃v,e=.returned v) ∧
  ((∃ys,ys=iU bs∧J ys W')∨(∃pre,(∃k,pre=(iU bs).take k)∧Jx pre W')):=by
 refine callsIn_of_wp Tryz.func133 rfl hF ?_ hro;simp only[Tryz.ntmps133,List.size_toArray,List.length_cons,List.length_nil,Nat.reduceAdd,Nat.reduceSub,Array.replicate_succ,Array.replicate_zero,List.push_toArray,List.append_toArray,List.nil_append,List.cons_append]
 gi_wp2
 gi_loopw [3] (fun i wr=>∃k:Nat,k≤(bs.length+7) / 8∧i=.int .i64 (8*k:Nat)∧J ((List.range k).map (yt bs)) wr∧Jt n₀ Bs W wr)
  (fun i _=>bs.length+8-(intOf i).toNat)
 case atStart=>exact⟨0,Nat.zero_le _,rfl,h0,Jt.refl _ _ _⟩
 case round=>
  obtain⟨k,hk,rfl,hJs,hnx⟩:=hrel;have hc:wr.cell? ⟨Bs,0,none⟩=some (.slice ad bs.length cp):=hnx.2.trans hBs;obtain⟨i,hi⟩:=ay (8*k);rw[←hi]
  by_cases hlt:i<bs.length
  ·obtain⟨b,o,rfl,hbn,hcells⟩:=hcs (fun e=>by rw[e] at hlt;simp at hlt)
   have hcells':∀j (h:j<bs.length),wr.cell? ⟨b,o+j,none⟩=some (.int .u8 (bs[j].toNat:Nat)):=fun j h=>(hnx.1.cell (p:=⟨b,o+j,none⟩) hbn).trans (hcells j h)
   have HC:=ah hcells';clear hcells hcells' hcs;have hi0:(0:Int)≤i:=by omega
   have hi1:(i:Int)+8≤9223372036854775807:=by omega
   have QY:(i:Int)<bs.length:=by omega
   obtain⟨e,he⟩:=ay (min (i+8) bs.length);have hmin:(if (bs.length:Int)<(i:Int)+8 then (bs.length:Int) else (i:Int)+8)=(e:Int):=by split<;>omega
   have he1:i≤e∧e≤i+8∧e≤bs.length:=by omega
   have HE:=ah he;have HI:=ah hi;have HL:=ah hlen;have HY:=ah hY;have MI:=ah he1;clear hi hlen he he1 hY
   gi_wp2
   gi_loop [4,5] (fun wv kv=>∃j:Nat,i≤j∧j≤e∧kv=.int .i64 (j:Nat)∧wv=.int .u64 (yV ((bs.drop i).take (j-i)):Nat)) (fun _ kv=>e-(intOf kv).toNat)
   case atStart=>exact⟨i,Nat.le_refl _,MI.out.1,rfl,by simp[yV]⟩
   case round=>
    obtain⟨j,hj1,hj2,rfl,rfl⟩:=hrel;have HJ2:=ah hj2;clear hj2;obtain⟨x,hx⟩:=ay (yV ((bs.drop i).take (j-i)));rw[←hx];have HX:=ah hx;clear hx
    by_cases hje:j<e
    ·have b1:(j:Int)<e:=by omega
     have b2:j<bs.length:=by have:=MI.out;omega
     have b7:(j:Int)<bs.length:=by omega
     have b3:(i:Int)≤j:=by omega
     obtain⟨d,hd⟩:=ay (j-i);have b4:(j:Int)-(i:Int)=(d:Int):=by omega
     have b5:(d:Int)<8:=by have:=MI.out;omega
     have b6:(0:Int)≤(d:Int):=by omega
     have hcj:=HC.out j b2;obtain⟨y,hy⟩:=ay (bs[j]);rw[←hy] at hcj;have HYB:=ah hy;have HD:=ah hd;clear hy;clear hd QY hje hlt hk hn
     gi_wp2
     obtain rfl:j=i+d:=by have:=HD.out;omega
     refine⟨⟨i+d+1,by omega,by omega,by go_num,?_⟩,by simp[intOf];omega⟩;have hlen:bs.length=bs.length:=rfl;rw[HX.out,show i+d+1-i=d+1 by omega,show i+d-i=d by omega,yc _ _ _ (by omega),←HYB.out,←P7 _ _ d (by rw[List.length_take,List.length_drop];omega) (by omega)]
    ·have b1:¬(j:Int)<e:=by omega
     have hj:j=e:=by have:=HJ2.out;omega
     have hlen:bs.length=bs.length:=rfl;have hxw:x=uj bs k:=by
      have:=HE.out;have:=HI.out;rw[HX.out,hj,uj,←HI.out]
      by_cases h8:i+8≤bs.length
      ·rw[show e-i=8 by omega]
      ·rw[List.take_of_length_le (by rw[List.length_drop];omega),List.take_of_length_le (by rw[List.length_drop];omega)]
     clear hj;obtain⟨fn,tmps,assign,body,hy,hR⟩:=HY.out _ (yt bs k) wr hJs (by simp;have:=HI.out;omega);dsimp only[yt] at hy;rw[←hxw] at hy;have HXW:=ah hxw;have HLN:=ah hlen;have HN:=ah hnx;clear hxw hlen
     gi_wp2
     refine hR.mono ?_;rintro e' W3 (⟨rfl,hJ3,hk3⟩|⟨rfl,hJx3⟩)
     ·clear hc
      gi_wp2
      go_roundw
      case rel=>exact⟨k+1,by have:=HI.out;omega,by rw[HI.out];go_num,by rw[List.range_succ,lD,List.map_cons,List.map_nil];exact hJ3,HN.out.trans hk3⟩
      case measure=>simp[intOf];omega
     ·gi_wp2
      refine bodyPost_ret (results_none rfl _ _ _) rfl ?_;refine⟨⟨_,rfl⟩,.inr ⟨_,⟨k+1,?_⟩,hJx3⟩⟩;rw[←Ae _ _ (by have:=HI.out;omega),List.range_succ,lD];rfl
  ·clear hcs
   have hge:¬(i:Int)<bs.length:=by omega
   have hk':k=(bs.length+7) / 8:=by omega
   have HK:=ah hk';clear hk' hi
   gi_wp2
   go_end0
   refine⟨⟨_,rfl⟩,.inl ?_⟩;rw[iU];show J ((List.range ((bs.length+7) / 8)).map _) _;rw[←HK.out];exact hJs
theorem YM {n₀ Bs:Nat} {w:World} (hn:n₀≤w.heap.size) (hB:Bs<w.heap.size) (W:World) (l:Nat) (o o':Obj) (hl:w.heap.size≤l) (h:W.heap[l]?=some o) (h1:o.isCells=false) (h2:o.isWalk=false):Jt n₀ Bs W (W.putObj l o'):=
 ⟨belowK_b hn W l o o' hl h h1 h2,by
  have:(W.putObj l o').heap[Bs]?=W.heap[Bs]?:=World.putObj_heap_other (by omega);simp only[World.cell?,this]⟩
theorem I8 (F:Fence) (n:Nat) (hF:F.fn 176) (hro:F.round=none) (hn:1≤n) (Bs n₀:Nat) (s:ByteArray) (hlen:s.size≤4611686018427387904) (w:World) (hBs:Bs<w.heap.size) (hc:w.cell? ⟨Bs,0,none⟩=some (.string s)):
 SeqStopsK F n Tryz.prog 176 #[.pointer (some ⟨Bs,0,none⟩)] (fun x:V6=>#[.int .u64 (x.1:Nat)]) (Jt n₀ Bs) (fun ys=>ys=iU s.data.toList) (fun pre=>∃k,pre=(iU s.data.toList).take k) ((s.size+7) / 8) w:=fun l J Jx W hW _ _ hY h0=>
 OX F n hF hro hn l Bs n₀ s hlen J Jx hY W ((hW.cell (p:=⟨Bs,0,none⟩) hBs).trans hc) h0
theorem words_stops (F:Fence) (n:Nat) (hF:F.fn 133) (hro:F.round=none) (hn:1≤n) (Bs n₀:Nat) (ad:Option Addr) (cp:Nat) (bs:List UInt8) (hlen:bs.length≤4611686018427387904) (w:World) (hBs:Bs<w.heap.size) (hn₀:n₀≤w.heap.size) (hc:w.cell? ⟨Bs,0,none⟩=some (.slice ad bs.length cp))
 (hcs:bs≠[]→∃b o,ad=some ⟨b,o,none⟩∧b<n₀∧∀j (h:j<bs.length),w.cell? ⟨b,o+j,none⟩=some (.int .u8 (bs[j].toNat:Nat))):
 SeqStopsK F n Tryz.prog 133 #[.pointer (some ⟨Bs,0,none⟩)] (fun x:V6=>#[.int .u64 (x.1:Nat)]) (Jt n₀ Bs) (fun ys=>ys=iU bs) (fun pre=>∃k,pre=(iU bs).take k) ((bs.length+7) / 8) w:=fun l J Jx W hW _ _ hY h0=>
 RS F n hF hro hn l Bs n₀ ad cp bs hlen J Jx hY W ((hW.cell (p:=⟨Bs,0,none⟩) hBs).trans hc) (fun hne=>by
  obtain⟨b,o,e,hb,hcells⟩:=hcs hne;exact⟨b,o,e,hb,fun j h=>(hW.cell (p:=⟨b,o+j,none⟩) (Nat.lt_of_lt_of_le hb hn₀)).trans (hcells j h)⟩) h0
theorem RU (F:Fence) (n:Nat) (hF:F.fn 134) (hro:F.round=none) (s:ByteArray) (w:World):
 CallsIn F n Tryz.prog 134 #[.string s] w fun e w'=>e=.returned (.func (.func 176) #[] #[.pointer (some ⟨w.heap.size,0,none⟩)])∧w'=w.alloc (.cells #[.string s] 9):=by
 refine callsIn_of_wp Tryz.func134 rfl hF ?_ hro;simp only[Tryz.ntmps134,List.size_toArray,List.length_cons,List.length_nil,Nat.reduceAdd,Nat.reduceSub,Array.replicate_succ,Array.replicate_zero,List.push_toArray,List.append_toArray,List.nil_append,List.cons_append]
 gi_wp2
 go_ret
 exact⟨rfl,rfl⟩
theorem U9 (F:Fence) (n:Nat) (hF:F.fn 78) (hro:F.round=none) (ad:Option Addr) (len cp:Nat) (w:World):
 CallsIn F n Tryz.prog 78 #[.slice ad len cp] w fun e w'=>e=.returned (.func (.func 133) #[] #[.pointer (some ⟨w.heap.size,0,none⟩)])∧w'=w.alloc (.cells #[.slice ad len cp] 51):=by
 refine callsIn_of_wp Tryz.func78 rfl hF ?_ hro;simp only[Tryz.ntmps78,List.size_toArray,List.length_cons,List.length_nil,Nat.reduceAdd,Nat.reduceSub,Array.replicate_succ,Array.replicate_zero,List.push_toArray,List.append_toArray,List.nil_append,List.cons_append]
 gi_wp2
 go_ret
 exact⟨rfl,rfl⟩
end Go.Proofs.YthfmaclnccdcbaaGreatDoor
namespace Go.Proofs.YthfmaclnccdcbaaGreatDoor
open Go.RowKit PA
attribute [local go_sem] Oper.semAt_some
theorem mix_in (F:Fence) (n:Nat) (hF:F.fn 135) (hro:F.round=none) (s x:Nat) (w:World) (hs:s<18446744073709551616) (hx:x<18446744073709551616):CallsIn F n Tryz.prog 135 #[.int .u64 s,.int .u64 x] w fun e w'=>e=.returned (.int .u64 (jq s x:Nat))∧w=w':=by
 refine callsIn_of_wp Tryz.func135 rfl hF ?_ hro;simp only[Tryz.ntmps135,List.size_toArray,List.length_cons,List.length_nil,Nat.reduceAdd,Nat.reduceSub,Array.replicate_succ,Array.replicate_zero,List.push_toArray,List.append_toArray,List.nil_append,List.cons_append]
 gi_wp2
 go_ret
 exact⟨o8 (Ik s x hs hx),rfl⟩
theorem Rl (s:Nat) (w:World) (hs:s<18446744073709551616):Calls Tryz.prog 135 #[.int .u64 s,.int .u64 0] w fun e w'=>e=.returned (.int .u64 (jq s 0:Nat))∧w=w':=Dn s 0 w hs (by omega)
def SV (n:Nat) (w:World) (ad:Option Addr) (l:List Int):Prop:=l≠[]→∃b o,ad=some ⟨b,o,none⟩∧b<n∧∀j (h:j<l.length),w.cell? ⟨b,o+j,none⟩=some (.int .i64 l[j])
set_option maxRecDepth 100000 in
set_option maxHeartbeats 4000000 in
theorem U5 (s:ByteArray) (ad:Option Addr) (cp:Nat) (ns:List Int) (w:World) (hs:s.size≤4611686018427387904) (hn:ns.length≤4611686018427387904) (hl:SV w.heap.size w ad ns):
 Calls Tryz.prog 79 #[.string s,.slice ad ns.length cp] w fun e w'=>e=.returned (.int .u64 (LU s.data.toList ns:Nat))∧Below w.heap.size w w':=by
 refine (callsIn_wide (n:=3)).1 ?_;refine callsIn_of_wp_marks Tryz.func79 rfl trivial ?_ rfl;simp only[Tryz.ntmps79,List.size_toArray,List.length_cons,List.length_nil,Nat.reduceAdd,Nat.reduceSub,Array.replicate_succ,Array.replicate_zero,List.push_toArray,List.append_toArray,List.nil_append,List.cons_append];have HS:=ah hs;have HN:=ah hn;have HL:=ah hl;clear hs hn hl
 gi_wp2_with (refine⟨trivial,?_⟩;gi_at_call 134;refine (RU Fence.wide _ trivial rfl s _).mono ?_;rintro e w' ⟨rfl,rfl⟩)
 obtain⟨B,hB⟩:=ay (w.heap.size);obtain⟨W0,hW0⟩:=ay ((w.alloc (.cells #[.int .u64 0] 48)).alloc (.cells #[.string s] 9));have hz0:W0.heap.size=B+2:=by rw[hW0,hB];simp
 have hbel0:Below B w W0:=by rw[hW0,hB];exact ((Below.refl _ w).alloc (Nat.le_refl _) _).alloc (by simp) _
 have hbx0:Boxed W0 B 48 (.int .u64 0):=by rw[hW0,hB];exact (Boxed.new w 48 _).alloc _
 have hbs:Boxed W0 (B+1) 9 (.string s):=by rw[hW0,hB];have:=Boxed.new (w.alloc (.cells #[.int .u64 0] 48)) 9 (.string s);rw[World.size_alloc] at this;exact this
 rw[←hW0,←hB];have HB:=ah hB;clear hW0 hB;refine wpIn_rangeFunc_ownF (F:=Fence.wide) rfl (by omega) (gf:=176) (lb:=#[.pointer (some ⟨B+1,0,none⟩)]) rfl trivial (enters_of Tryz.func176 (by kernel_rfl) rfl)
  (I8 Fence.wide (3-1) trivial rfl (by omega) (B+1) B s HS.out _ (by rw[hz0];omega) hbs.cell) (fun h k=>Jt.trans h k) (YM (by rw[hz0];omega) (by rw[hz0];omega)) (Below.refl _ _) (fun _=>rfl)
  (fun pre W=>Boxed W B 48 (.int .u64 (((pre.map (·.1)).foldl jq 0:Nat)))∧Below B w W)
  (fun _ _ _=>False)
  (OwnFrom.and (Own.from (boxed_own _ _ _) _) (ownFrom_below (by rw[HB.out];exact Nat.le_refl _) (by rw[hz0];omega)))
  (fun _=>(Own.from (fun _ _ _ _ hs _ _=>hs) _))
  ⟨hbx0,hbel0⟩
  (fun x=>{ tmps:=#[.string s,.slice ad ns.length cp,undef,undef,.int .u64 0,.pointer (some ⟨B,0,none⟩),.int .u64 (x.1:Nat),undef,undef,.string s,.func (.func 176) #[] #[.pointer (some ⟨B+1,0,none⟩)],.int .u64 (x.1:Nat),undef,undef,undef,undef,undef,undef,undef,undef,undef,undef,undef,undef,undef,undef,undef,undef,undef,undef,undef,undef,undef,undef,undef,undef,undef],defers:=[] }) ?assign ?body ?done ?stop
 case assign=>
  intro l x W K hK
  gi_wp2
  exact hK
 case body=>
  rintro l pre x W ⟨hbx,hbl⟩ _;have hd:1≤3-1-1:=by omega
  have hlt:=jl (pre.map (·.1)) 0 (by omega);obtain⟨y,hy⟩:=ay ((pre.map (·.1)).foldl jq 0);rw[←hy] at hbx hlt;have hc:=hbx.cell;have hf:=hbx.frozen;have HY:=ah hy;have O7:=ah hlt;clear hy hlt
  gi_wp2_with (refine⟨trivial,?_⟩;gi_at_call 135;refine (CallsIn.inRound l (mix_in _ _ trivial rfl _ _ _ O7.out x.2)).mono ?_;rintro e w' ⟨rfl,rfl⟩)
  refine⟨KeepsOthers.setCell _ _ _,⟨(Below.refl B W).setCell (p:=⟨B,0,none⟩) (Nat.le_refl _) _,World.cell?_setCell_other W _ _ _ (by simp)⟩,?_,hbl.setCell (p:=⟨B,0,none⟩) (Nat.le_refl _) _⟩;rw[lD,List.foldl_append,←HY.out,List.map_cons,List.map_nil,List.foldl_cons,List.foldl_nil];exact hbx.set _
 case done=>
  rintro D xs W hD rfl ⟨hbx,hbl⟩ hK;rw[Em] at hbx;obtain⟨y0,hy0⟩:=ay ((eF s.data.toList).foldl jq 0);have abT:y0<18446744073709551616:=by rw[hy0];exact jl _ 0 (by omega)
  rw[←hy0] at hbx;have hsz:(s.size:Int)≤4611686018427387904:=by have:=HS.out;omega
  have hnl:(ns.length:Int)≤4611686018427387904:=by have:=HN.out;omega
  obtain⟨n0,hn0⟩:=ay (ns.length);rw[←hn0] at hnl ⊢;have hw1:IntKind.u64.wrap (s.size:Int)=(s.size:Nat):=wraps_u64 _ (by omega) (by omega);have hw2:IntKind.u64.wrap (n0:Int)=(n0:Nat):=wraps_u64 _ (by omega) (by omega);have hlt1:s.size<18446744073709551616:=by omega
  have hlt2:n0<18446744073709551616:=by omega
  have hc:=hbx.cell;have hf:=hbx.frozen;have hB2:=hbl.setCell (p:=⟨B,0,none⟩) (Nat.le_refl _) (.int .u64 (jq (jq y0 s.size) n0:Nat));have hbx2:=hbx.set (.int .u64 (jq (jq y0 s.size) n0:Nat));have hK2:(W.setCell ⟨B,0,none⟩ (.int .u64 (jq (jq y0 s.size) n0:Nat))).heap[D]?=some (.deferred (some [])):=(KeepsOthers.setCell _ _ _).same D _ hK rfl;have H0:=ah hy0;have XQ:=ah hn0;have Qq:=ah hK2;have HL0:=ah abT;have RX:=ah hlt1;have HL2:=ah hlt2;clear hy0 abT hlt1 hlt2 hn0 hbx hK hK2
  gi_wp2_with (refine⟨trivial,?_⟩;((with_reducible refine (callsIn_wide.2 (Dn _ _ _ (by first|exact HL0.out|exact xO _ _) (by first|exact RX.out|exact HL2.out))).mono ?_);rintro e w' ⟨rfl,rfl⟩))
  generalize W.setCell ⟨B,0,none⟩ (.int .u64 (jq (jq y0 s.size) n0:Nat))=W2 at *;obtain⟨y2,hy2⟩:=ay (jq (jq y0 s.size) n0);have Us:y2<18446744073709551616:=by rw[hy2];exact xO _ _
  rw[←hy2] at hbx2 ⊢;have HY2:=ah hy2;have Zk:=ah Us;clear hy2 Us hw1 hw2 hc hf
  gi_loopw [26] (fun iv wr=>∃k:Nat,k≤n0∧iv=.int .i64 k∧Boxed wr B 48 (.int .u64 ((((ns.map oJ).take k).foldl jq y2:Nat)))∧Below B w wr∧wr.heap[D]?=some (.deferred (some []))) (fun iv _=>n0-(intOf iv).toNat)
  case atStart=>exact⟨0,Nat.zero_le _,rfl,by simpa using hbx2,hB2,Qq.out⟩
  case round=>
   clear hbx2 hB2;obtain⟨k,hk,rfl,hbx,Zw,hK⟩:=hrel;obtain⟨y,hy⟩:=ay (((ns.map oJ).take k).foldl jq y2);have hyl:y<18446744073709551616:=by rw[hy];exact jl _ _ Zk.out
   rw[←hy] at hbx;have hc:=hbx.cell;have hf:=hbx.frozen;have HY:=ah hy;have HYL:=ah hyl;have HK:=ah hK;clear hy hyl hK
   by_cases hlt:k<n0
   ·have ZB:k<ns.length:=by rw[←XQ.out];exact hlt
    obtain⟨b,o,rfl,hbn,hcells⟩:=HL.out (fun e=>by rw[e] at ZB;simp at ZB);have hck:wr.cell? ⟨b,o+k,none⟩=some (.int .i64 ns[k]):=(Zw.cell (p:=⟨b,o+k,none⟩) (by rw[HB.out];exact hbn)).trans (hcells k ZB);obtain⟨z,hz⟩:=ay (ns[k]);rw[←hz] at hck;have hwz:=Gv z;have hzl:=Qj z;have HZ:=ah hz;have HZL:=ah hzl;have QY:(k:Int)<n0:=by omega
    clear hz hcells hzl
    gi_wp2_with (refine⟨trivial,?_⟩;((with_reducible refine (callsIn_wide.2 (Dn _ _ _ (by exact HYL.out) (by exact HZL.out))).mono ?_);rintro e w' ⟨rfl,rfl⟩))
    go_roundw
    case rel=>
     refine⟨k+1,by omega,by go_num,?_,Zw.setCell (p:=⟨B,0,none⟩) (Nat.le_refl _) _,(KeepsOthers.setCell _ _ _).same D _ HK.out rfl⟩;have e:(ns.map oJ).take (k+1)=(ns.map oJ).take k++[oJ z]:=by
      rw[List.take_succ_eq_append_getElem (by rw[List.length_map,←XQ.out];exact hlt),List.getElem_map,←HZ.out]
     rw[e,List.foldl_append,←HY.out,List.foldl_cons,List.foldl_nil];exact hbx.set _
    case measure=>simp[intOf];omega
   ·obtain rfl:k=n0:=by omega
    gi_wp2_with (refine⟨trivial,?_⟩;((with_reducible refine (callsIn_wide.2 (Rl y _ (by exact HYL.out))).mono ?_);rintro e w' ⟨rfl,rfl⟩))
    refine⟨by simp,.inl ⟨_,_,rfl,run_takeDeferred HK.out,?_⟩⟩;refine⟨_,results_tmp rfl _ _ _,?_,?_⟩
    ·refine o8 ?_
     rw[LU,XC,List.length_map,←H0.out,←XQ.out,show s.data.toList.length=s.size by simp,←HY2.out];rw[HY.out,List.take_of_length_le (by rw[List.length_map,←XQ.out];exact Nat.le_refl _)]
    ·rw[←HB.out]
     exact Zw.trans (belowK_b (w:=w) (by rw[HB.out];exact Nat.le_refl _) wr D _ _ (by have:=HB.out;omega) HK.out rfl rfl)
 case stop=>
  rintro D c pre W _ _ h _;exact h.elim
end Go.Proofs.YthfmaclnccdcbaaGreatDoor
namespace Go.Proofs.YthfmaclnccdcbaaGreatDoor
open Go.RowKit PA
attribute [local go_sem] Oper.semAt_some
def wv (x:Nat):Value:=.int .i64 (wrap64 (x:Int))
theorem L6 (x:Nat) (h:x<18446744073709551616):oJ (wrap64 (x:Int))=x:=by
 unfold oJ wrap64;omega
theorem ER {W:World} {base e:Nat} {ad:Option Addr} {n cap:Nat} {ns:List Int} (h:W.ownsRow base e 1 (.slice ad n cap) n (ns.map (Value.int .i64))):SV W.heap.size W ad ns:=by
 intro hne;obtain⟨hl,h⟩:=h;simp only[List.length_map,Nat.mul_one] at hl;rcases h with ⟨_,h0⟩|⟨g,c,cur,he,hb,hg,h1,h2,h3,h4⟩
 ·exact absurd (List.eq_nil_of_length_eq_zero (by omega)) hne
 ·cases he
  refine⟨g,0,rfl,(Array.getElem?_eq_some_iff.1 hg).1,fun j hj=>?_⟩;simp only[Nat.zero_add,Nat.mul_one] at *;rw[cell_of_row W g j cur e (0,0) hg];have:(cur.toList.take n)[j]?=(ns.map (Value.int .i64))[j]?:=by rw[h4]
  rw[List.getElem?_take,if_pos (by omega),List.getElem?_map,List.getElem?_eq_getElem hj] at this;simpa using this
theorem Uu:(Tryz.prog.info? 3).map (fun i=>(i.zero,i.size,i.bytes))=some (some (.int .i64 0),1,8):=by kernel_rfl
set_option maxRecDepth 100000 in
set_option maxHeartbeats 4000000 in
theorem J8 (s:ByteArray) (ad:Option Addr) (cp:Nat) (bs:List UInt8) (w:World) (hs:s.size≤4611686018427387904) (hb:bs.length≤140737488351240)
 (hcs:bs≠[]→∃b o,ad=some ⟨b,o,none⟩∧b<w.heap.size∧∀j (h:j<bs.length),w.cell? ⟨b,o+j,none⟩=some (.int .u8 (bs[j].toNat:Nat))):
 Calls Tryz.prog 26 #[.string s,.slice ad bs.length cp] w fun e w'=>e=.returned (.int .u64 (lJ s.data.toList bs:Nat))∧Below w.heap.size w w':=by
 obtain⟨i0,hi,hz0,hz1,hz2⟩:=info_parts Uu;refine (callsIn_wide (n:=3)).1 ?_;refine callsIn_of_wp_marks Tryz.func26 rfl trivial ?_ rfl;simp only[Tryz.ntmps26,List.size_toArray,List.length_cons,List.length_nil,Nat.reduceAdd,Nat.reduceSub,Array.replicate_succ,Array.replicate_zero,List.push_toArray,List.append_toArray,List.nil_append,List.cons_append];have HS:=ah hs;have nH:=ah hcs;obtain⟨n0,hn0⟩:=ay (bs.length);rw[←hn0] at hb ⊢;have hbI:(n0:Int)≤140737488351240:=by omega
 have HN:=ah hn0;have HB0:=ah hb;clear hs hcs hn0 hb
 gi_wp2_with (refine⟨trivial,?_⟩;gi_at_call 78;refine (U9 Fence.wide _ trivial rfl ad n0 cp _).mono ?_;rintro e w' ⟨rfl,rfl⟩)
 obtain⟨B,hB⟩:=ay (w.heap.size);obtain⟨W0,hW0⟩:=ay ((w.alloc (.cells #[.slice none 0 0] 22)).alloc (.cells #[.slice ad n0 cp] 51));have hz:W0.heap.size=B+2:=by rw[hW0,hB];simp
 have hbel0:Below B w W0:=by rw[hW0,hB];exact ((Below.refl _ w).alloc (Nat.le_refl _) _).alloc (by simp) _
 have hbx0:Boxed W0 B 22 (.slice none 0 0):=by rw[hW0,hB];exact (Boxed.new w 22 _).alloc _
 have hbs:Boxed W0 (B+1) 51 (.slice ad n0 cp):=by rw[hW0,hB];have:=Boxed.new (w.alloc (.cells #[.slice none 0 0] 22)) 51 (.slice ad n0 cp);rw[World.size_alloc] at this;exact this
 rw[←hW0,←hB];have HB:=ah hB;clear hW0 hB;have hstops:=words_stops Fence.wide (3-1) trivial rfl (by omega) (B+1) B ad cp bs (by have:=HN.out;have:=HB0.out;omega) W0 (by rw[hz];omega) (by rw[hz];omega) (by rw[←HN.out];exact hbs.cell) (fun hne=>by
  obtain⟨b,o,e,hbn,hcells⟩:=nH.out hne;exact⟨b,o,e,by rw[HB.out];exact hbn,fun j h=>(hbel0.cell (p:=⟨b,o+j,none⟩) (by rw[HB.out];exact hbn)).trans (hcells j h)⟩)
 rw[←HN.out] at hstops;refine wpIn_rangeFunc_ownF (F:=Fence.wide) rfl (by omega) (gf:=133) (lb:=#[.pointer (some ⟨B+1,0,none⟩)]) rfl trivial (enters_of Tryz.func133 (by kernel_rfl) rfl)
  hstops (fun h k=>Jt.trans h k) (YM (by rw[hz];omega) (by rw[hz];omega)) (Below.refl _ _) (fun _=>rfl)
  (fun pre W=>(∃v,Boxed W B 22 v∧W.ownsRow B 3 1 v pre.length (pre.map fun x=>wv x.1)∧(v=.slice none 0 0↔pre=[]))∧Boxed W (B+1) 51 (.slice ad n0 cp)∧Below B w W)
  (fun _ _ _=>False)
  (OwnFrom.and (Own.from (holdsRow_own B B 22 3 1 (fun pre:List V6=>pre.length) (fun pre=>pre.map fun x=>wv x.1) (fun pre v=>v=.slice none 0 0↔pre=[])) _) (OwnFrom.and (Own.from (boxed_own _ _ _) _) (ownFrom_below (by rw[HB.out];exact Nat.le_refl _) (by rw[hz];omega))))
  (fun _=>(Own.from (fun _ _ _ _ hs _ _=>hs) _))
  ⟨⟨_,hbx0,World.ownsRow_nil _ _ _ _,by simp⟩,hbs,hbel0⟩
  (fun x=>{ tmps:=#[.string s,.slice ad n0 cp,undef,undef,.int .u64 0,.pointer (some ⟨B,0,none⟩),.int .u64 (x.1:Nat),.slice ad n0 cp,.func (.func 133) #[] #[.pointer (some ⟨B+1,0,none⟩)],.int .u64 (x.1:Nat),undef,undef,undef,undef,undef,undef,undef,undef,undef,undef,undef,undef],defers:=[] }) ?assign ?body ?done ?stop
 case assign=>
  intro l x W K hK
  gi_wp2
  exact hK
 case body=>
  rintro l pre x W ⟨⟨v,hv,hrow,hnil⟩,Uf,hbl⟩ hlt;have hc:=hv.cell;have hf:=hv.frozen;have hk:pre.length<17592186043906:=by omega
  have HK:=ah hk;have VW:=ah hnil;clear hnil hlt hk hbs hbx0;obtain⟨z,hz⟩:∃z:Int,wrap64 (x.1:Int)=z:=⟨_,rfl⟩
  gi_wp2_with (gi_at_builtin;(refine wpListIn_append_own _ rfl _ _ 22 rfl B 3 i0 (.int .i64 0) 1 8 Tryz.underlying22 hi hz0 hz1 hz2 rfl (by decide) _ _ _ rfl (hrow.alloc _) ⟨W.heap.size,0,none⟩ 1 1 [.int .i64 z] rfl rfl (cell_one_new _ _ _) (by simp[Value.oneCell']) (by have:=HK.out;unfold maxLen;omega) (by have:=HK.out;omega) (by have:=hbl.size;simp;have:=HB.out;omega) ?_);intro v' w1 hown' hgrow _;obtain⟨g',cap',rfl⟩:=ownsRow_succ hown';obtain⟨hv1,hv2,hr2,hk2,hb2⟩:=hv.appended (by decide) hrow (by have:=hbl.size;have:=HB.out;omega) (Nat.le_refl _) hown' hgrow;have hc1:=hv1.cell;have hf1:=hv1.frozen)
  have e1:(pre++[x]).map (fun x=>wv x.1)=pre.map (fun x=>wv x.1)++[.int .i64 z]:=by
   rw[lD,List.map_cons,List.map_nil,wv,hz]
  have hx2:=((Uf.alloc _).kept hgrow (Uf.not_row (by decide) hrow)).other (B':=B) (by omega) (.slice (some ⟨g',0,none⟩) (pre.length+1) cap');exact⟨hk2,⟨hb2,hx2.cell.trans Uf.cell.symm⟩,⟨_,hv2,by rw[e1,dD];exact hr2,by simp⟩,hx2,hbl.trans hb2⟩
 case done=>
  rintro D xs W hD rfl ⟨⟨v,hv,hrow,hnil⟩,Uf,hbl⟩ hK;have hc:=hv.cell;obtain⟨m,hm⟩:=ay ((iU bs).length);have hmb:m≤17592186043906:=by rw[hm,vS];have:=HN.out;have:=HB0.out;omega
  rw[←hm] at hrow;have HM:=ah hm;have RY:=ah hmb;have VW:=ah hnil;have VK:B<W.heap.size:=hv.lt;have zx:=ah VK;clear hnil hbs hbx0 hm hmb hstops VK
  gi_wp2_with (gi_at_builtin;(refine wpListIn_append_own _ rfl _ _ 22 rfl B 3 i0 (.int .i64 0) 1 8 Tryz.underlying22 hi hz0 hz1 hz2 rfl (by decide) _ _ _ rfl (hrow.alloc _) ⟨W.heap.size,0,none⟩ 1 1 [.int .i64 (n0:Int)] rfl rfl (cell_one_new _ _ _) (by simp[Value.oneCell']) (by have:=RY.out;unfold maxLen;omega) (by have:=RY.out;omega) (by have:=zx.out;simp;omega) ?_);(intro v' w1 hown' hgrow _;obtain⟨g',cap',rfl⟩:=ownsRow_succ hown';obtain⟨hv1,hv2,hr2,hk2,hb2⟩:=hv.appended (by decide) hrow (by have:=zx.out;omega) (Nat.le_refl _) hown' hgrow;clear hv2 hr2 hk2 hb2))
  obtain⟨ns,hns⟩:∃ns:List Int,ns=(eF bs).map (fun x:Nat=>wrap64 (x:Int))++[(n0:Int)]:=⟨_,rfl⟩
  have hnl:ns.length=m+1:=by rw[hns,dD,List.length_map,kX,HM.out,vS];rfl
  have hrow2:w1.ownsRow B 3 1 (.slice (some ⟨g',0,none⟩) (m+1) cap') (m+1) (ns.map (Value.int .i64)):=by
   have e:ns.map (Value.int .i64)=(iU bs).map (fun x=>wv x.1)++[.int .i64 (n0:Int)]:=by
    rw[hns,lD,←Em,List.map_map,List.map_map];rfl
   rw[e];exact hown'
  have hgrow2:(W.alloc (.cells #[.int .i64 (n0:Int)] 3)).grownBy w1 v.ownBlock:=hgrow;have hkp:KeepsOthers W w1:=(KeepsOthers.alloc W _).trans (KeepsOthers.of_grownBy hgrow2 fun j o ej hj=>by
   rcases (hrow.alloc (.cells #[.int .i64 (n0:Int)] 3)).2 with ⟨rfl,_⟩|⟨g,cap,cur,rfl,_,hgb,_⟩
   ·simp[Value.ownBlock] at ej
   ·obtain rfl:g=j:=by simpa[Value.ownBlock] using ej
    rw[hgb] at hj;cases hj;rfl)
  have hK1:w1.heap[D]?=some (.deferred (some [])):=hkp.same D _ hK rfl;have Zv:Below B W w1:=by
   refine (((Below.refl B W).alloc (by have:=zx.out;omega) _).grown hgrow2 (by have:=zx.out;simp;omega) fun j ej=>?_);rcases hrow.2 with ⟨rfl,_⟩|⟨g,cap,cur,rfl,hb,_,_⟩
   ·simp[Value.ownBlock] at ej
   ·obtain rfl:g=j:=by simpa[Value.ownBlock] using ej
    exact hb
  have hsum:=U5 s (some ⟨g',0,none⟩) cap' ns w1 HS.out (by have:=RY.out;omega) (ER hrow2);rw[hnl] at hsum;refine⟨trivial,(callsIn_wide.2 hsum).mono ?_⟩;rintro e w2 ⟨rfl,hb2⟩;have hD1:D<w1.heap.size:=(Array.getElem?_eq_some_iff.1 hK1).1;have hK2:w2.heap[D]?=some (.deferred (some [])):=(hb2.block D hD1).trans hK1;have adA:Below B w w2:=(hbl.trans Zv).trans (hb2.mono (by have:=Zv.size;have:=zx.out;omega));have hsv:LU s.data.toList ns=lJ s.data.toList bs:=by rw[hns,HN.out];exact Gt _ _ (by have:=HN.out;have:=HB0.out;omega)
  rw[hsv];obtain⟨r,hr⟩:=ay (lJ s.data.toList bs);rw[←hr];have HR:=ah hr;clear hsum hsv hrow2 hns hnl hown' hgrow hgrow2 hrow hv hc hv1 hb2 hkp hK1 Zv hK hbl Uf hD1 hbI hr
  gi_wp2
  refine⟨by simp,.inl ⟨_,_,rfl,run_takeDeferred hK2,?_⟩⟩;refine⟨_,results_tmp rfl _ _ _,by rw[←HR.out];rfl,?_⟩;rw[←HB.out];exact adA.trans (belowK_b (w:=w) (by rw[HB.out];exact Nat.le_refl _) w2 D _ _ (by have:=HB.out;omega) hK2 rfl rfl)
 case stop=>
  rintro D c pre W _ _ h _;exact h.elim
end Go.Proofs.YthfmaclnccdcbaaGreatDoor
